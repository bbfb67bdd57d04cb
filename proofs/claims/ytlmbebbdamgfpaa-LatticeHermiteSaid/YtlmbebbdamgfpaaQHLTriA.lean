/- lattice.triangle, for every denominator but zero. -/
import Derived.Test.YtlmbebbdamgfpaaQHLIns
import Derived.Test.YtlmbebbdamgfpaaQHLRedP
import Derived.Test.YtlmbebbdamgfpaaQHRegFree
import Derived.Deep.Cut
set_option linter.unusedVariables false
set_option linter.unusedSimpArgs false
set_option maxHeartbeats 16000000
set_option maxRecDepth 100000
namespace Go.Proofs.Ytlmbebbdamgfpaa
open Go.RowKit
def qLo (w0 : World) (M0 : List (List Int)) (ps : List Nat) (m : Int) (e : Ending) (w' : World) : Prop :=
 ∃ (R : Nat) (l : List Rw) (sq sq' : List (List Int)), e = .returned (.slice (some ⟨R, 0, none⟩) ps.length ps.length) /\ qCd w' R l ps.length sq' /\ l.length = ps.length /\ qH5 m ps.length (sq.map vec) (M0.map (fun r => res ps (vec r))) /\ qIA m ps.length 0 (sq.map vec) (sq'.map vec) /\ (∀ r ∈ sq', Bd m r) /\ Below w0.heap.size w0 w'
theorem qMc {d : Int} (h : 0 < d) : qAK d 0 = 1 := by
 unfold qAK; rw [if_neg (by omega)]
 first | rfl | (rw [if_pos h]) | (rw [if_neg (by omega)])
theorem qMd {d : Int} (h : d < 0) : qAK d 0 = -1 := by
 unfold qAK
 split <;> first | rfl | omega
theorem qFP (w0 : World) (v vp vd : Value) (M0 : List (List Int)) (n : Nat) (ps : List Nat) (d : Int) (h : qEI w0 v M0) (hM : M0.length <= 1000) (hn : ∀ r ∈ M0, r.length = n) (hn2 : n <= 1000) (hp : qAo w0 vp (ps.map (fun (p : Nat) => (p : Int)))) (hps : ∀ p ∈ ps, p < n) (hpl : ps.length <= 1000) (hd : qAz w0 vd d) (hd0 : d ≠ 0) (sd : Sz 4000 d) (sM : ∀ r ∈ M0, ∀ x ∈ r, Sz 4000 x) :
 Calls Try.prog 53 #[v, vp, vd] w0 (qLo w0 M0 ps (if d < 0 then -d else d)) := by
 obtain ⟨s_d, a_d, n_d, c_d, rfl⟩ := hd.form4; have Vd := hZ hd; have H := hZ h; obtain ⟨av, cv, rfl, q1, q2⟩ := qAh.form h; have HPS := hZ hp; obtain ⟨ap, cp, hvp, q3, q4⟩ := hp.form; rw [List.length_map] at hvp q3; subst hvp; have Hn := hZ hn; have Hps := hZ hps; have Sd := hZ sd; have SM := hZ sM; have HB := hZ (Below.refl w0.heap.size w0); obtain ⟨K, hK0⟩ := eX ps.length; have HK := hZ hK0; rw [hK0] at q3 hpl ⊢; clear h hd hp hn hps sd sM hK0; obtain ⟨m, hm⟩ := eX ((if d < 0 then -d else d)); rw [hm]; have HMm := hZ hm; clear hm; obtain ⟨w1, hw⟩ := eX ((w0.alloc (.cells #[.bool s_d, .slice a_d n_d c_d] 58))); have hB := aB hw; obtain ⟨b5, hb_b5⟩ := eX w0.heap.size; have h9 := Bx.new (w := w0) Vd.o; rw [hw, hb_b5] at h9; have F5' := hZ h9; have hge_b5 : w0.heap.size <= b5 := by omega
 clear h9; replace Vd := Vd.b hB; replace HB := bT HB hB; have F5 := F5'; clear F5'; clear hB; have hw5 := hw; clear hw hge_b5; obtain ⟨s_p, a_p, n_p, c_p, t_p, h_p⟩ := F5.o; have d0p := t_p.cell0; have d1p := t_p.cell1; have Vp := hZ h_p; clear t_p h_p; have hl5 := F5.o.lt; clear Vd; obtain ⟨w2, hw⟩ := eX ((w1.alloc (.cells #[.bool s_p, .slice a_p n_p c_p] 58))); have hB := aB hw; obtain ⟨b7, hb_b7⟩ := eX w1.heap.size; have h9 := Bx.new (w := w1) Vp.o; rw [hw, hb_b7] at h9; have Fm' := hZ h9; have hge_b7 : w1.heap.size <= b7 := by omega
 clear h9; replace F5 := F5.b hB; replace Vp := Vp.b hB; replace HB := bT HB hB; have Fm := Fm'; clear Fm'; clear hB; have Hb7 : Hid (w0.heap.size <= b7) := hZ (by omega); clear hl5 hge_b7
 skip
 obtain ⟨s_q, a_q, n_q, c_q, t_q, h_q⟩ := Fm.o; have d0q := t_q.cell0; have d1q := t_q.cell1; have Vq := hZ h_q; clear t_q h_q
 go_enter Try.func53, Try.ntmps53
 go_wp2_with fail
 clear hw hw5 hb_b5 hb_b7 d0p d1p; refine (qAD (w := w2) Vq.o Sd.o (by omega)).mono ?_; rintro e w3 ⟨he, hB⟩; subst he; replace F5 := F5.b hB; replace Vp := Vp.b hB; replace Fm := Fm.b hB; replace Vq := Vq.b hB; replace HB := bT HB hB; clear hB; clear F5 Vp Vq; clear d0q d1q
 go_upto_if 23 with fail
 go_cut [] from 20 (fun  wc => Hid (Bx wc b7 m) /\ Hid (Below w0.heap.size w0 wc))
 ·skip
  by_cases h1 : d < 0
  ·skip
   rw [qMd h1]; obtain ⟨s_q, a_q, n_q, c_q, t_q, h_q⟩ := Fm.o; have d0q := t_q.cell0; have d1q := t_q.cell1; have Vq := hZ h_q; clear t_q h_q
   go_wp2_with fail
   clear d0q d1q; refine (qLT (w := w3) Vq.o Sd.o (by omega)).mono ?_; rintro e w4 ⟨s_x, a_x, n_x, c_x, rfl, h_x, hB⟩; have Vx := hZ h_x; replace Fm := Fm.b hB; replace Vq := Vq.b hB; replace HB := bT HB hB; clear hB; clear h_x; obtain ⟨s_9, a_9, n_9, c_9, t_9, -⟩ := Fm.o; have e0 := t_9.cell0; have e1 := t_9.cell1; have e2 := t_9.frozen 0; have e3 := t_9.frozen 1; clear t_9; have hn9 : qAg w4 (b7) := Fm.o.noInt; obtain ⟨w5, hw⟩ := eX ((w4.setCell ⟨b7, 0, none⟩ (.bool s_x)).setCell ⟨b7, 1, none⟩ (.slice a_x n_x c_x)); have hw2 : st2 w4 (b7) (0) (1) s_x a_x n_x c_x = w5 := hw; replace Fm := hZ (Bx.put Fm.o Vx.o); rw [hw2] at Fm; replace Vq := hZ (Vq.o.offe hw2 hn9); replace Vx := hZ (Vx.o.offe hw2 hn9); replace HB := hZ (bO hw2 HB.o (by have := Hb7.o; omega)); clear hw2 hn9
   go_wp2_with fail
   go_meet
   case rel => exact ⟨by rw [<- HMm.o, if_pos h1]; exact Fm, HB⟩
  ·skip
   rw [qMc (by omega)]
   go_wp2_with fail
   go_meet
   case rel => exact ⟨by rw [<- HMm.o, if_neg (by omega)]; exact Fm, HB⟩
 ·skip
  clear Fm HB; obtain ⟨Fm, HB⟩ := hcut; obtain ⟨w4, rfl⟩ := eY wc; have Sm : Hid (Sz 4000 m) := hZ (by rw [<- HMm.o]; split; exact Sd.o.neg; exact Sd.o); have hm0 : 0 < m := by rw [<- HMm.o]; split <;> omega
  go_wp2_with (at_make; refine qBI rfl rfl (K) rfl rfl rfl rfl (by omega) ?_)
  intro w5 h_9 hB hlt9; obtain ⟨R, hb⟩ := eX w4.heap.size; rw [hb] at h_9 ⊢; have Ob' := hZ h_9; have hge_R : Hid (w4.heap.size <= R) := hZ (Nat.le_of_eq hb); have hlt_R : Hid (R < w5.heap.size) := hZ (by rw [<- hb]; exact hlt9); have HGR : w0.heap.size <= R /\ b7 < R := ⟨Nat.le_trans HB.o.size hge_R.o, by rw [<- hb]; exact Fm.o.lt⟩; clear h_9 hb hlt9; replace Fm := Fm.b hB; replace HB := bT HB hB; clear hB; have Ob := Ob'; clear Ob'
  go_wp2_with fail
  have HgR : Hid (w0.heap.size <= R /\ b7 < R) := hZ HGR; clear hge_R hlt_R HGR
  go_loopw [31] (fun i wr => ∃ (j : Nat) (l : List Rw), j <= K /\ i = .int .i64 j /\ Hid (l.length = j /\ (∀ k (h : k < l.length), R < l[k].1) /\ ∀ k (h : k < l.length), l[k].2 = K) /\ Hid (qAE wr R 55 (rwZ K l (K - j))) /\ Hid (qAC wr l K ((dgL m K).take j)) /\ Hid (Bx wr b7 m) /\ Hid (Below w0.heap.size w0 wr)) (fun i _ => K - (intOf i).toNat)
  case atStart => exact ⟨0, [], by omega, rfl, hZ ⟨rfl, fun k h => by simp at h, fun k h => by simp at h⟩, hZ (by simpa [rwZ] using Ob.o), hZ (qAC.nil _ _), Fm, HB⟩
  case round =>
   clear HB Ob Fm; obtain ⟨j, l, hj, rfl, HL, Ob, RI, Fm, HB⟩ := hrel; obtain ⟨w5, rfl⟩ := eY wr; by_cases hlt : j < K
   ·skip
    have i1 : (0 : Int) <= (j : Int) := by omega
    have i2 : (j : Int) < (K : Int) := by omega
    go_wp2_with (at_make; refine qAY rfl rfl (K) rfl rfl rfl rfl (by omega) ?_)
    intro w6 h_9 hB hlt9; obtain ⟨g, hb⟩ := eX w5.heap.size; rw [hb] at h_9 ⊢; have Rr' := hZ h_9; have hge_g : Hid (w5.heap.size <= g) := hZ (Nat.le_of_eq hb); have hlt_g : Hid (g < w6.heap.size) := hZ (by rw [<- hb]; exact hlt9); have HLg : Hid ((∀ k (h : k < l.length), l[k].1 < g) /\ R < g /\ b7 < g) := hZ ⟨fun k h => by rw [<- hb]; exact RI.o.lt k h, by rw [<- hb]; exact Ob.o.lt, by rw [<- hb]; exact Fm.o.lt⟩; clear h_9 hb hlt9; replace Ob := Ob.b hB; replace RI := RI.b hB; replace Fm := Fm.b hB; replace HB := bT HB hB; clear hB; have Rr := Rr'; clear Rr'; clear hge_g hlt_g; have Hk : Hid (K - j = (K - (j + 1)) + 1) := hZ (by omega); rw [Hk.o] at Ob; have e0 : w6.cell? ⟨R, j, none⟩ = some (.slice none 0 0) := (Ob.o.cell j).trans (by rw [<- HL.o.1]; exact qCS); have e2 := Ob.o.frozen (j); obtain ⟨w7, hw⟩ := eX (w6.setCell ⟨R, j, none⟩ (.slice (some ⟨g, 0, none⟩) K K)); have ho : qAc (fun b => b = R) w6 w7 := by rw [<- hw]; exact (qAc.refl (fun b => b = R) _).set (p := ⟨R, j, none⟩) rfl _
    have hN : ∀ b, b = R -> qAg w6 b := fun b e => e ▸ Ob.o.noInt qEd; replace Ob := hZ ((by have h1 := Ob.o.set j (.slice (some ⟨g, 0, none⟩) K K); rw [hw, qFc K HL.o.1] at h1; exact h1)); replace RI := hZ (RI.o.only ho hN (fun i hi => by intro (e : _ = R); have := HL.o.2.1 i hi; omega)); replace Fm := hZ (Fm.o.only ho hN (by intro (e : _ = R); have := HLg.o; have := HgR.o; omega)); replace Rr := hZ (Rr.o.only ho hN (by intro (e : _ = R); have := HLg.o; have := HgR.o; omega)); replace HB := hZ (qAj HB.o ho (fun b e => by have := HgR.o; omega) HB.o.size); clear ho hN
    go_wp2_with fail
    clear hw e0 e2; obtain ⟨w8, hwd⟩ := eX w7.drew; have hB := dB hwd; replace Ob := Ob.b hB; replace RI := RI.b hB; replace Fm := Fm.b hB; replace Rr := Rr.b hB; replace HB := bT HB hB; clear hB; have HBr : Hid (qAc (fun b => False) w8 w8) := hZ (qAc.refl _ _); refine qAx [7] (fun w' => qAc (fun b => False) w8 w') (by kernel_rfl) (by rw [hwd]; exact qAc.refl _ _) (fun hHeld => ?_); rw [hwd] at hHeld ⊢; clear hwd; obtain ⟨s_m, a_m, n_m, c_m, t_m, h_m⟩ := Fm.o; have d0m := t_m.cell0; have d1m := t_m.cell1; have Vm := hZ h_m; clear t_m h_m; have e0 : w8.cell? ⟨R, j, none⟩ = some (.slice (some ⟨g, 0, none⟩) K K) := (Ob.o.cell j).trans (by have h1 := HL.o.1; subst h1; rw [qHv (by simp)]; simp); refine pU 0 40 ?_; refine pU 1 41 ?_; refine pU 2 42 ?_; refine tU 3 43 (cF e0 Ob.o.lt) ?_; refine pU 4 44 ?_; refine tV 5 45 (cF d0m Fm.o.lt) (cF d1m Fm.o.lt) ?_; refine pU 6 46 ?_; clear d0m d1m; obtain ⟨s_9, a_9, n_9, c_9, e0, e1, -⟩ := Rr.o.get (j) (by simpa using hlt); have e2 := Rr.o.frozen (j * 2); have e3 := Rr.o.frozen (j * 2 + 1); have hn9 : qAg w8 (g) := Rr.o.noInt; obtain ⟨w9, hw⟩ := eX ((w8.setCell ⟨g, j * 2, none⟩ (.bool s_m)).setCell ⟨g, j * 2 + 1, none⟩ (.slice a_m n_m c_m)); have hw2 : st2 w8 (g) (j * 2) (j * 2 + 1) s_m a_m n_m c_m = w9 := hw; replace Rr := hZ (qAF.put' Rr.o (j) (by simpa using hlt) Vm.o); rw [hw2] at Rr; replace Ob := hZ (Ob.o.offe hw2 (by have := HLg.o; omega)); replace RI := hZ (qAC.off (g := g) (o1 := j * 2) (o2 := j * 2 + 1) (s := s_m) (a := a_m) (n' := n_m) (c := c_m) RI.o hn9 (fun i hi => by have := HLg.o.1 i hi; omega)); rw [hw2] at RI; replace Fm := hZ (Fm.o.offe hw2 hn9 (by have := HLg.o; omega)); replace Vm := hZ (Vm.o.offe hw2 hn9); replace HB := hZ (bO hw2 HB.o (by have := HLg.o; have := HgR.o; omega)); clear hw2 hn9; refine lU 7 fun K hK => ?_; go_simp
    try rw [hw]
    refine hK.out _ _ ?_; clear hK K
    try simp only [Act.put, sX1, sX2, sX3]
    clear hw e0 e1 e2 e3; refine dU ?_; clear hHeld; clear Vm; clear e0
    go_wp2_with fail
    have HD : (dgL m K).take (j + 1) = (dgL m K).take j ++ [(List.replicate K 0).set j m] := by rw [List.take_succ_eq_append_getElem (by rw [qEy]; exact hlt), qKs m K j hlt]
    go_roundw
    case rel => exact ⟨j + 1, l ++ [(g, K)], by omega, by go_num, hZ ⟨by have := HL.o.1; simp; omega, qB5 (P := fun (x : Rw) => R < x.1) HL.o.2.1 HLg.o.2.1, qB5 (P := fun (x : Rw) => x.2 = K) HL.o.2.2 rfl⟩, Ob, hZ (by rw [HD]; exact RI.o.snoc Rr.o (by simp) (fun i hi => by have := HLg.o.1 i hi; omega) (Nat.le_refl _) (by omega)), Fm, HB⟩
    case measure => simp [intOf]; omega
   ·skip
    obtain rfl : j = K := by omega
    have RS : Hid (qCd w5 R l j (dgL m j)) := hZ (by have h1 := Ob.o; rw [Nat.sub_self] at h1; have h2 := RI.o; rw [List.take_of_length_le (by rw [qEy]; exact Nat.le_refl _)] at h2; exact ⟨by simpa [rwZ] using h1, h2, fun i hi => by have := HL.o.2.1 i hi; omega⟩); have HLn : Hid (l.length = j) := hZ HL.o.1; have HLR : Hid (w0.heap.size <= R /\ b7 < R /\ w0.heap.size <= b7 /\ ∀ k (h : k < l.length), R < l[k].1) := hZ ⟨HgR.o.1, HgR.o.2, Hb7.o, HL.o.2.1⟩; clear Ob RI HL HgR Hb7
    go_wp2_with fail
    have HQ : Hid (SqL m ps M0 0 (dgL m j)) := hZ (by have h1 := SqL.start hm0 ps M0; rw [HK.o] at h1; exact h1)
    go_loopw [50] (fun i wr => ∃ (t : Nat) (sq : List (List Int)), t <= M0.length /\ i = .int .i64 t /\ Hid (SqL m ps M0 t sq) /\ Hid (qCd wr R l j sq) /\ Hid (Bx wr b7 m) /\ Hid (Below w0.heap.size w0 wr)) (fun i _ => M0.length - (intOf i).toNat)
    case atStart => exact ⟨0, dgL m j, by omega, rfl, HQ, RS, Fm, HB⟩
    case round =>
     clear HQ RS Fm HB; obtain ⟨t, sq, ht, rfl, HQ, RS, Fm, HB⟩ := hrel; obtain ⟨w5, rfl⟩ := eY wr; by_cases htl : t < M0.length
     ·skip
      obtain ⟨b, cap, a, cx, hv, hb, n1, HR, g1, g2⟩ := H.o.at_ t htl; injection hv with f1 f2 f3; subst f1; clear f2 f3; have Hr : Hid (M0[t].length = n) := hZ (Hn.o _ (List.getElem_mem htl)); have Hsr : Hid (∀ x ∈ M0[t], Sz 4000 x) := hZ (SM.o _ (List.getElem_mem htl)); replace n1 := (HB.o.cell (p := ⟨b, t, none⟩) hb).trans n1; obtain ⟨r, hr⟩ := eX (M0[t]); rw [hr] at n1 HR g1 Hr Hsr; have HRt := hZ hr; rw [Hr.o] at n1 HR g1; have HR := hZ HR; clear hr; have i1 : (0 : Int) <= (t : Int) := by omega
      have i2 : (t : Int) < (M0.length : Int) := by omega
      go_wp2_with (at_make; refine qAY rfl rfl (j) rfl rfl rfl rfl (by omega) ?_)
      intro w6 h_9 hB hlt9; obtain ⟨ga, hb⟩ := eX w5.heap.size; rw [hb] at h_9 ⊢; have Ra' := hZ h_9; have hge_ga : Hid (w5.heap.size <= ga) := hZ (Nat.le_of_eq hb); have hlt_ga : Hid (ga < w6.heap.size) := hZ (by rw [<- hb]; exact hlt9); have HGa : Hid (R < ga /\ b7 < ga /\ ∀ k (h : k < l.length), l[k].1 < ga) := hZ ⟨by rw [<- hb]; exact RS.o.lt, by rw [<- hb]; exact Fm.o.lt, fun k h => by rw [<- hb]; exact RS.o.rows.lt k h⟩; clear h_9 hb hlt9; replace RS := RS.b hB; replace Fm := Fm.b hB; replace HB := bT HB hB; clear hB; have Ra := Ra'; clear Ra'; clear hge_ga hlt_ga
      go_wp2_with fail
      have HTl : Hid ((cdL m ps r).length = (List.replicate j (0 : Int)).length) := hZ (by rw [qFA, HK.o]; simp)
      go_loopw [59] (fun i wr => ∃ q : Nat, q <= j /\ i = .int .i64 q /\ Hid (qAF wr ga ((cdL m ps r).take q ++ (List.replicate j 0).drop q)) /\ Hid (qCd wr R l j sq) /\ Hid (Bx wr b7 m) /\ Hid (Below w0.heap.size w0 wr)) (fun i _ => j - (intOf i).toNat)
      case atStart => exact ⟨0, by omega, rfl, hZ (by simpa using Ra.o), RS, Fm, HB⟩
      case round =>
       clear Ra RS Fm HB; obtain ⟨q, hq, rfl, Ra, RS, Fm, HB⟩ := hrel; obtain ⟨w6, rfl⟩ := eY wr; by_cases hql : q < j
       ·skip
        have i3 : (0 : Int) <= (q : Int) := by omega
        have i4 : (q : Int) < (j : Int) := by omega
        have hqp : q < ps.length := by rw [HK.o]; exact hql
        have Hqm : Hid (q < (ps.map (fun (p : Nat) => (p : Int))).length) := hZ (by rw [List.length_map]; exact hqp); obtain ⟨b2, cap2, hv, hb2, n2⟩ := (qAo.below HPS.o HB.o).at_ q Hqm.o; rw [List.length_map, HK.o] at hv; injection hv with f1 f2 f3; subst f1; clear f2 f3; rw [List.getElem_map] at n2; obtain ⟨pc, hpc⟩ := eX (ps[q]); have hpn : pc < n := hpc ▸ Hps.o _ (List.getElem_mem _); rw [hpc] at n2; have Hpc := hZ hpc; clear hpc; have i5 : (0 : Int) <= (pc : Int) := by omega
        have i6 : (pc : Int) < (n : Int) := by omega
        have Hpr : Hid (pc < r.length) := hZ (by rw [Hr.o]; exact hpn)
        go_wp2_with fail
        clear n2; obtain ⟨w7, hwd⟩ := eX w6.drew; have hB := dB hwd; replace Ra := Ra.b hB; replace RS := RS.b hB; replace Fm := Fm.b hB; replace HB := bT HB hB; clear hB; have HBr : Hid (qAc (fun b => False) w7 w7) := hZ (qAc.refl _ _); refine qAx [9] (fun w' => qAc (fun b => False) w7 w') (by kernel_rfl) (by rw [hwd]; exact qAc.refl _ _) (fun hHeld => ?_); rw [hwd] at hHeld ⊢; clear hwd; obtain ⟨b9, c9, s_r, a_r, n_r, c_r, hv9, hb9, d0r, d1r, h_r⟩ := (HR.o.blw HB.o).at_ pc Hpr.o; injection hv9 with f1 f2 f3; subst f1; clear f2 f3; replace hb9 := hZ hb9; obtain ⟨z, hz⟩ := eX (r[pc]'Hpr.o); rw [hz] at h_r; have Vr := hZ h_r; have Sz_ : Hid (Sz 4000 z) := hZ (hz ▸ Hsr.o _ (List.getElem_mem _)); have Hz := hZ hz; clear h_r hz; obtain ⟨s_m, a_m, n_m, c_m, t_m, h_m⟩ := Fm.o; have d0m := t_m.cell0; have d1m := t_m.cell1; have Vm := hZ h_m; clear t_m h_m; refine pU 0 64 ?_; refine pU 1 65 ?_; refine pU 2 66 ?_; refine pU 3 67 ?_; refine pU 4 68 ?_; refine tV 5 69 (cF d0r hb9.o) (cF d1r hb9.o) ?_; refine tV 6 70 (cF d0m Fm.o.lt) (cF d1m Fm.o.lt) ?_; clear d0r d1r d0m d1m; refine eU 7 fun K hK => ?_; go_simp; refine (qDc (w := w7) Vr.o Vm.o Sz_.o Sm.o (by omega) (by omega) (by omega)).mono ?_; rintro e w8 ⟨s_z, a_z, n_z, c_z, rfl, h_z, hB⟩; have Vz := hZ h_z; replace HBr := oT HBr hB; replace Ra := Ra.b hB; replace RS := RS.b hB; replace Fm := Fm.b hB; replace Vr := Vr.b hB; replace Vm := Vm.b hB; replace HB := bT HB hB; clear hB; clear h_z; refine hK.out _ _ HBr.o (fun hHeld => ?_); clear hK K
        try simp only [Act.put, sX1, sX2, sX3]
        refine pU 8 72 ?_; obtain ⟨s_9, a_9, n_9, c_9, e0, e1, -⟩ := Ra.o.get (q) (by rw [qCf HTl.o (by simp; omega)]; simpa using hql); have e2 := Ra.o.frozen (q * 2); have e3 := Ra.o.frozen (q * 2 + 1); have hn9 : qAg w8 (ga) := Ra.o.noInt; obtain ⟨w9, hw⟩ := eX ((w8.setCell ⟨ga, q * 2, none⟩ (.bool s_z)).setCell ⟨ga, q * 2 + 1, none⟩ (.slice a_z n_z c_z)); have hw2 : st2 w8 (ga) (q * 2) (q * 2 + 1) s_z a_z n_z c_z = w9 := hw; replace Ra := hZ (qAF.put' Ra.o (q) (by rw [qCf HTl.o (by simp; omega)]; simpa using hql) Vz.o); rw [hw2] at Ra; replace RS := hZ (qCd.off9 (g := ga) (o1 := q * 2) (o2 := q * 2 + 1) (s := s_z) (a := a_z) (n' := n_z) (c := c_z) RS.o hn9 ⟨by have := HGa.o.1; omega, fun i hi => by have := HGa.o.2.2 i hi; omega⟩); rw [hw2] at RS; replace Fm := hZ (Fm.o.offe hw2 hn9 (by have := HGa.o; omega)); replace Vr := hZ (Vr.o.offe hw2 hn9); replace Vm := hZ (Vm.o.offe hw2 hn9); replace Vz := hZ (Vz.o.offe hw2 hn9); replace HB := hZ (bO hw2 HB.o (by have := HGa.o; have := HLR.o; omega)); clear hw2 hn9; refine lU 9 fun K hK => ?_; go_simp
        try rw [hw]
        refine hK.out _ _ ?_; clear hK K
        try simp only [Act.put, sX1, sX2, sX3]
        clear hw e0 e1 e2 e3; refine dU ?_; clear hHeld; clear Vr Vm Vz
        go_wp2_with fail
        have HC : (cdL m ps r)[q]'(by rw [qFA]; exact hqp) = z % m := by simp only [cdL, List.getElem_map]; rw [Hpc.o, qAk Hpr.o, Hz.o]
        replace Ra : Hid (qAF w9 ga ((cdL m ps r).take (q + 1) ++ (List.replicate j 0).drop (q + 1))) := hZ (by have h1 := Ra.o; rw [<- HC, qB2 HTl.o (by simpa using hql)] at h1; exact h1); go_roundw
        case rel => exact ⟨q + 1, by omega, by go_num, Ra, RS, Fm, HB⟩
        case measure => simp [intOf]; omega
       ·skip
        obtain rfl : q = j := by omega
        replace Ra : Hid (qAF w6 ga (cdL m ps r)) := hZ (by have h1 := Ra.o; have h2 := HTl.o; rw [List.take_of_length_le (by rw [h2]; simp), List.drop_eq_nil_of_le (by simp), List.append_nil] at h1; exact h1); obtain ⟨s_m, a_m, n_m, c_m, t_m, h_m⟩ := Fm.o; have d0m := t_m.cell0; have d1m := t_m.cell1; have Vm := hZ h_m; clear t_m h_m
        go_wp2_with fail
        clear d0m d1m; have HIn := hZ (qIq w6 R ga q q q l sq (cdL m ps r) _ m RS.o HLn.o Ra.o (by rw [qFA]; exact HK.o) hpl (Nat.le_refl _) (by omega) (Nat.le_refl _) (by omega) Vm.o hm0 Sm.o (by have h1 := HQ.o.to.tri; rw [HK.o] at h1; exact h1) HQ.o.bd (qMb hm0 _ _) ⟨by have := HGa.o.1; omega, fun i hi => by have := HGa.o.2.2 i hi; omega⟩); refine HIn.o.mono ?_; rintro e w7 ⟨⟨v9, rfl⟩, sq2, hi9, hr9, hb9, ho⟩; clear HIn; have Ra9 := Ra; clear Vm Ra; have hN : ∀ b, qLA ga l b -> qAg w6 b := by rintro b (rfl | ⟨i, hi, rfl⟩); exact Ra9.o.noInt; exact (RS.o.rows.row i hi).1.noInt
        replace RS := hZ (hr9); replace Fm := hZ (Fm.o.only ho hN (by rintro (e | ⟨i, hi, e⟩); have := HGa.o; omega; have := HLR.o.2.2.2 i hi; have := HLR.o; omega)); replace HB := hZ (qAj HB.o ho (by rintro b (rfl | ⟨i, hi, rfl⟩); have := HGa.o; have := HLR.o; omega; have := HLR.o.2.2.2 i hi; have := HLR.o; omega) HB.o.size); clear ho hN hr9 Ra9
        go_wp2_with fail
        go_roundw
        case rel => exact ⟨t + 1, sq2, by omega, by go_num, hZ (HQ.o.step htl (by rw [HRt.o, HK.o]; exact hi9) hb9), RS, Fm, HB⟩
        case measure => simp [intOf]; omega
     ·skip
      obtain rfl : t = M0.length := by omega
      have HQ0 := HQ.o.to; rw [List.take_of_length_le (Nat.le_refl _), HK.o] at HQ0; have HQ1 := hZ HQ0; have HRd := hZ (qJu.start (m := m) (n := j) HQ.o.bd); have Hsl : Hid (sq.length = j) := hZ (by have := RS.o.len; have := HLn.o; omega); have HTr : Hid (qFC m j 0 (sq.map vec)) := hZ HQ0.tri; clear HQ HQ0; have HBq : Hid (∀ r ∈ sq, Bd m r) := hZ HRd.o.bd
      go_wp2_with fail
      go_loopw [81] (fun i wr => ∃ (t : Nat) (sq1 : List (List Int)), t <= j /\ i = .int .i64 t /\ Hid (qJu m j sq t sq1) /\ Hid (qCd wr R l j sq1) /\ Hid (Bx wr b7 m) /\ Hid (Below w0.heap.size w0 wr)) (fun i _ => j - (intOf i).toNat)
      case atStart => exact ⟨0, sq, by omega, rfl, HRd, RS, Fm, HB⟩
      case round =>
       clear HRd RS Fm HB; obtain ⟨t, sq1, ht, rfl, HRd, RS, Fm, HB⟩ := hrel; obtain ⟨w5, rfl⟩ := eY wr; by_cases htj : t < j
       ·skip
        have i1 : (0 : Int) <= (t : Int) := by omega
        have i2 : (t : Int) < (j : Int) := by omega
        have htl : t < l.length := by rw [HLn.o]; exact htj
        have hts : t < sq.length := by rw [Hsl.o]; exact htj
        have hts1 : t < sq1.length := by rw [HRd.o.len]; exact hts
        obtain ⟨g, hg⟩ := eX (l[t].1); obtain ⟨cg, hcg⟩ := eX (l[t].2); have x0 := RS.o.get t htl; rw [hg, hcg] at x0; have hcc := RS.o.rows.cap t htl; rw [hcg] at hcc; obtain ⟨hc1, hc2⟩ := hcc; have HG := hZ hg; clear hg hcg; obtain ⟨hr1, hr2⟩ := RS.o.rows.row t htl; rw [HG.o] at hr1; have Rr := hZ hr1; have Hrl := hZ hr2; have HE0 : Hid (sq1[t] = sq[t]) := hZ (HRd.o.rest t hts1 hts (Nat.le_refl _)); have HBr : Hid (Bd m sq1[t]) := hZ (HRd.o.bd _ (List.getElem_mem _)); clear hr1 hr2; rw [HE0.o] at Rr Hrl HBr; obtain ⟨row, hrow⟩ := eX (sq[t]); rw [hrow] at Rr Hrl HBr; have HRow := hZ hrow; clear hrow; have RX := hZ (RS.o.x t); clear RS; have HWg : Hid (g ≠ R /\ b7 < g /\ R < g) := hZ (by rw [<- HG.o]; have := HLR.o.2.2.2 t htl; have := HLR.o; omega)
        go_wp2_with fail
        clear x0; have HR1 : Hid (qCL m j t ((sq.map vec).drop (t + 1)) (vec row) (vec row) (t + 1)) := hZ (qCL.first Hrl.o)
        go_loopw [17] (fun i wr => ∃ (p : Nat) (row1 : List Int), t + 1 <= p /\ p <= j /\ i = .int .i64 p /\ Hid (qCL m j t ((sq.map vec).drop (t + 1)) (vec row) (vec row1) p) /\ Hid (Bd m row1) /\ Hid (row1.length = j) /\ Hid (RwX wr R l j sq1 t) /\ Hid (qAF wr g row1) /\ Hid (Bx wr b7 m) /\ Hid (Below w0.heap.size w0 wr)) (fun i _ => j - (intOf i).toNat)
        case atStart => exact ⟨t + 1, row, by omega, by omega, by go_num, HR1, HBr, Hrl, RX, Rr, Fm, HB⟩
        case round =>
         clear HR1 HBr Hrl RX Rr Fm HB; obtain ⟨p, row1, htp, hp, rfl, HR1, HB1, Hrl, RX, Rr, Fm, HB⟩ := hrel; obtain ⟨w5, rfl⟩ := eY wr; by_cases hpj : p < j
         ·skip
          have j1 : (0 : Int) <= (p : Int) := by omega
          have j2 : (p : Int) < (j : Int) := by omega
          have hpl2 : p < l.length := by rw [HLn.o]; exact hpj
          have hps0 : p < sq.length := by rw [Hsl.o]; exact hpj
          have hps1 : p < sq1.length := by rw [HRd.o.len]; exact hps0
          obtain ⟨gp, hgp⟩ := eX (l[p].1); obtain ⟨cgp, hcgp⟩ := eX (l[p].2); have HGp := hZ (And.intro hgp hcgp); clear hgp hcgp; have HEp : Hid (sq1[p] = sq[p]) := hZ (HRd.o.rest p hps1 hps0 (by omega)); obtain ⟨sp, hsp⟩ := eX (sq[p]); have HSp := hZ hsp; obtain ⟨-, t2, -⟩ := HTr.o.at_ p (by simpa using hps0); rw [List.getElem_map, Nat.zero_add, hsp] at t2; have HBsp : Hid (Bd m sp) := hZ (hsp ▸ HBq.o _ (List.getElem_mem _)); have Rp0 : ∀ w, RwX w R l j sq1 t -> qAF w gp sp /\ sp.length = j := fun w h => by have := h.row p hpl2 (by omega); rw [HGp.o.1, HEp.o, HSp.o] at this; exact this
          have RP := hZ Rp0; clear Rp0; have HSl : Hid (sp.length = j) := hZ (RP.o _ RX.o).2; have Hpr : Hid (p < row1.length) := hZ (by rw [Hrl.o]; exact hpj); have Hpsp : Hid (p < sp.length) := hZ (by rw [HSl.o]; exact hpj); obtain ⟨x, hx⟩ := eX (row1[p]'Hpr.o); obtain ⟨y, hy⟩ := eX (sp[p]'Hpsp.o); have Hx := hZ hx; have Hy := hZ hy; have HBx : Hid (0 <= x /\ x <= m) := hZ (hx ▸ HB1.o _ (List.getElem_mem _)); have HBy : Hid (0 <= y /\ y <= m) := hZ (hy ▸ HBsp.o _ (List.getElem_mem _)); have hy0 : 0 < y := by rw [qAk Hpsp.o, hy] at t2; exact t2
          have Sx : Hid (Sz 4000 x) := hZ (qEF Sm.o HBx.o); have Sy : Hid (Sz 4000 y) := hZ (qEF Sm.o HBy.o); clear hx hy hsp t2; have HNe : Hid (gp ≠ g /\ R < gp) := hZ ⟨by rw [<- HGp.o.1, <- HG.o]; exact RX.o.nodup p t hpl2 htl (by omega), by rw [<- HGp.o.1]; exact HLR.o.2.2.2 p hpl2⟩
          go_wp2_with fail
          refine qCa (fun t ds a w' => ∃ v94 v95 v96 v97 v98 v99 v100 v101 v102 v103 v104 v105 bq, a = ⟨(((((((((((((t.setIfInBounds 18 (.pointer (some ⟨bq, 0, none⟩)))).setIfInBounds 94 v94).setIfInBounds 95 v95).setIfInBounds 96 v96).setIfInBounds 97 v97).setIfInBounds 98 v98).setIfInBounds 99 v99).setIfInBounds 100 v100).setIfInBounds 101 v101).setIfInBounds 102 v102).setIfInBounds 103 v103).setIfInBounds 104 v104).setIfInBounds 105 v105, ds⟩ /\ Hid (Bx w' bq (x / y)) /\ Hid (Below w5.heap.size w5 w') /\ Hid (w5.heap.size <= bq)) ?_ ?_
          ·skip
           have HJ := hZ (Below.refl w5.heap.size w5); obtain ⟨w6, hwd⟩ := eX w5.drew; have hB := dB hwd; replace RX := RX.b hB; replace Rr := Rr.b hB; replace Fm := Fm.b hB; replace HJ := bT HJ hB; clear hB; have HBr : Hid (qAc (fun b => w6.heap.size <= b) w6 w6) := hZ (qAc.refl _ _); refine qAx [13] (fun w' => qAc (fun b => w6.heap.size <= b) w6 w') (by kernel_rfl) (by rw [hwd]; exact qAc.refl _ _) (fun hHeld => ?_); rw [hwd] at hHeld ⊢; clear hwd; have e0 := RX.o.get p hpl2; rw [HGp.o.1, HGp.o.2] at e0; have Rp := hZ (RP.o _ RX.o).1; obtain ⟨s_x, a_x, n_x, c_x, d0x, d1x, h_x⟩ := Rr.o.get p Hpr.o; rw [Hx.o] at h_x; have Vx := hZ h_x; clear h_x; obtain ⟨s_y, a_y, n_y, c_y, d0y, d1y, h_y⟩ := Rp.o.get p Hpsp.o; rw [Hy.o] at h_y; have Vy := hZ h_y; clear h_y; refine pU 0 94 ?_; refine pU 1 95 ?_; refine pU 2 96 ?_; refine tV 3 97 (cT (Nat.not_le_of_lt Rr.o.lt) d0x Rr.o.lt) (cT (Nat.not_le_of_lt Rr.o.lt) d1x Rr.o.lt) ?_; refine pU 4 98 ?_; refine pU 5 99 ?_; refine pU 6 100 ?_; refine tU 7 101 (cT (Nat.not_le_of_lt RX.o.lt) e0 RX.o.lt) ?_; refine pU 8 102 ?_; refine pU 9 103 ?_; refine tV 10 104 (cT (Nat.not_le_of_lt Rp.o.lt) d0y Rp.o.lt) (cT (Nat.not_le_of_lt Rp.o.lt) d1y Rp.o.lt) ?_; clear e0 d0x d1x d0y d1y Rp RX Rr Fm; have HJs : Hid (w5.heap.size <= w6.heap.size) := hZ HJ.o.size; refine qK9 [11, 12] [] 2 (fun t ds p a w => ∃ v105 v18 bq, a = ⟨((t).setIfInBounds 105 v105).setIfInBounds 18 v18, ds⟩ /\ Hid (Below w6.heap.size w6 w) /\ (p 11 = true -> Hid (qAz w v105 (x / y))) /\ (p 12 = true -> v18 = .pointer (some ⟨bq, 0, none⟩) /\ Hid (Bx w bq 0) /\ Hid (w6.heap.size <= bq))) ?_ (by kernel_rfl) (by decide) rfl rfl ⟨?_, ?_, trivial⟩ ?_
           ·exact ⟨_, _, 0, by first | rfl | (simp only [sX1, sX2, sX3]; rfl), hZ (Below.refl _ _), nofun, nofun⟩
           ·skip
            intro p a w7 hJ hp; obtain ⟨v105, v18, bq, rfl, HBw, g11, g12⟩ := hJ; simp only [sX1, sX2, sX3]; refine qBj 11 rfl (fun K hK => ?_); replace Vx := hZ (Vx.o.blw HBw.o); replace Vy := hZ (Vy.o.blw HBw.o); go_simp; refine (qDQ (w := w7) Vx.o Vy.o Sx.o Sy.o (by omega) (by omega) (by omega)).mono ?_; rintro e w8 ⟨s_q, a_q, n_q, c_q, rfl, h_q, hB⟩; exact hK.out _ _ (HBr.o.trans (qAc.of_below (HBw.o.trans (hB.mono HBw.o.size)))) ⟨_, v18, bq, by first | (simp only [Act.put]; done) | (simp only [sX1, sX2, sX3]; rfl), hZ (HBw.o.trans (hB.mono HBw.o.size)), fun _ => hZ h_q, fun h => ⟨(g12 h).1, hZ ((g12 h).2.1.o.blw hB), (g12 h).2.2⟩⟩
           ·skip
            intro p a w7 hJ hp; obtain ⟨v105, v18, bq, rfl, HBw, g11, g12⟩ := hJ; simp only [sX1, sX2, sX3]; refine qBj 12 rfl (fun K hK => ?_); go_simp; obtain ⟨w8, hw⟩ := eX (w7.alloc (.cells #[.bool false, .slice none 0 0] 58)); have hB := aB hw; have hx : Hid (Bx w8 w7.heap.size 0) := hZ (by rw [<- hw]; exact Bx.new (qAv _)); rw [hw]; clear hw; exact hK.out _ _ (HBr.o.trans (qAc.of_below (HBw.o.trans (hB.mono HBw.o.size)))) ⟨v105, _, w7.heap.size, by first | (simp only [Act.put]; done) | (simp only [sX1, sX2, sX3]; rfl), hZ (HBw.o.trans (hB.mono HBw.o.size)), fun h => hZ ((g11 h).o.blw hB), fun _ => ⟨rfl, hx, hZ HBw.o.size⟩⟩
           ·skip
            intro p a w7 hJ hp; obtain ⟨v105, v18, bq, rfl, HBw, g11, g12⟩ := hJ; have Vq := g11 (hp 11 (by simp)); obtain ⟨s_q, a_q, n_q, c_q, rfl⟩ := Vq.o.form4; obtain ⟨rfl, Fq, hge_bq⟩ := g12 (hp 12 (by simp)); replace hge_bq : w6.heap.size <= bq := Nat.le_trans HBr.o.size hge_bq.o
            skip
            replace HBr := hZ (HBr.o.trans (qAc.of_below HBw.o)); have hB := HBw.o; simp only [sX1, sX2, sX3]; clear HBw; replace Vx := Vx.b hB; replace Vy := Vy.b hB; replace HJ := bT HJ hB; clear hB; obtain ⟨s_9, a_9, n_9, c_9, t_9, -⟩ := Fq.o; have e0 := t_9.cell0; have e1 := t_9.cell1; have e2 := t_9.frozen 0; have e3 := t_9.frozen 1; clear t_9; have hn9 : qAg w7 (bq) := Fq.o.noInt; obtain ⟨w8, hw⟩ := eX ((w7.setCell ⟨bq, 0, none⟩ (.bool s_q)).setCell ⟨bq, 1, none⟩ (.slice a_q n_q c_q)); have hw2 : st2 w7 (bq) (0) (1) s_q a_q n_q c_q = w8 := hw; replace Fq := hZ (Bx.put Fq.o Vq.o); rw [hw2] at Fq; replace Vx := hZ (Vx.o.offe hw2 hn9); replace Vy := hZ (Vy.o.offe hw2 hn9); replace Vq := hZ (Vq.o.offe hw2 hn9); replace HJ := hZ (bO hw2 HJ.o (by have := HJs.o; omega)); clear hw2 hn9; refine lU 13 fun K hK => ?_; go_simp
            try rw [hw]
            refine hK.out _ _ ?_; clear hK K
            try simp only [Act.put, sX1, sX2, sX3]
            clear hw e0 e1 e2 e3; refine dU ?_; clear hHeld; refine qAp ⟨_, _, _, _, _, _, _, _, _, _, _, _, _, by first | rfl | (simp only [sX1, sX2, sX3]; rfl), Fq, HJ, hZ (by have := HJs.o; omega)⟩
          ·skip
           rintro a w6 ⟨v94, v95, v96, v97, v98, v99, v100, v101, v102, v103, v104, v105, bq, rfl, Fq, HJ, Hbq0⟩; simp only [sX1, sX2, sX3]; have Hbq : Hid (g < bq /\ gp < bq /\ R < bq /\ b7 < bq /\ w0.heap.size <= bq /\ ∀ i (h : i < l.length), i ≠ t -> l[i].1 < bq) := hZ (by have h1 := Hbq0.o; have h2 := Rr.o.lt; have h3 := (RP.o _ RX.o).1.lt; have h4 := RX.o.lt; have h5 := Fm.o.lt; have h6 := HB.o.size; exact ⟨by omega, by omega, by omega, by omega, by omega, fun i hi hij => by have := (RX.o.row i hi hij).1.lt; omega⟩); have hB := HJ.o; clear HJ Hbq0; replace RX := RX.b hB; replace Rr := Rr.b hB; replace Fm := Fm.b hB; replace HB := bT HB hB; clear hB; obtain ⟨qq, hqq⟩ := eX (x / y); rw [hqq] at Fq; have Hqq := hZ hqq; have Sq : Hid (Sz 4001 qq) := hZ (hqq ▸ Sx.o.div (by omega)); clear hqq; obtain ⟨s_q, a_q, n_q, c_q, t_q, h_q⟩ := Fq.o; have d0q := t_q.cell0; have d1q := t_q.cell1; have Vq := hZ h_q; clear t_q h_q
           go_wp2_with fail
           clear d0q d1q; by_cases hq0 : qq = 0
           ·skip
            refine (qAD (w := w6) Vq.o Sq.o (by omega)).mono ?_; rintro e w7 ⟨he, hB⟩; rw [show qAK qq 0 = 0 by rw [hq0]; exact qAS 0] at he; subst he; replace RX := RX.b hB; replace Rr := Rr.b hB; replace Fm := Fm.b hB; replace Fq := Fq.b hB; replace Vq := Vq.b hB; replace HB := bT HB hB; clear hB
            go_wp2_with fail
            go_roundw
            case rel => exact ⟨p + 1, row1, by omega, by omega, by go_num, hZ (qFL.red HTr.o Hsl.o HR1.o (by omega) hpj Hrl.o (by rw [HSp.o, qAk Hpr.o, qAk Hpsp.o, Hx.o, Hy.o, Hqq.o]) (by rw [HSp.o]; exact (hq0 ▸ qFL.none Hrl.o HB1.o))), HB1, Hrl, RX, Rr, Fm, HB⟩
            case measure => simp [intOf]; omega
           ·skip
            refine (qAD (w := w6) Vq.o Sq.o (by omega)).mono ?_; rintro e w7 ⟨he, hB⟩; obtain ⟨sgq, hs9, q0q, q1q⟩ := qA0 (x := qq) hq0; rw [hs9] at he; subst he; clear hs9; replace RX := RX.b hB; replace Rr := Rr.b hB; replace Fm := Fm.b hB; replace Fq := Fq.b hB; replace Vq := Vq.b hB; replace HB := bT HB hB; clear hB
            go_wp2_with fail
            clear Vq; clear q0q q1q; obtain ⟨w8, hwd⟩ := eX w7.drew; have hB := dB hwd; replace RX := RX.b hB; replace Rr := Rr.b hB; replace Fm := Fm.b hB; replace Fq := Fq.b hB; replace HB := bT HB hB; clear hB; have HBr : Hid (qAc (fun b => False) w8 w8) := hZ (qAc.refl _ _); refine qAx [17] (fun w' => qAc (fun b => False) w8 w') (by kernel_rfl) (by rw [hwd]; exact qAc.refl _ _) (fun hHeld => ?_); rw [hwd] at hHeld ⊢; clear hwd; have e0 := RX.o.get p hpl2; rw [HGp.o.1, HGp.o.2] at e0; have Rp := hZ (RP.o _ RX.o).1; obtain ⟨s_x, a_x, n_x, c_x, d0x, d1x, h_x⟩ := Rr.o.get p Hpr.o; rw [Hx.o] at h_x; have Vx := hZ h_x; clear h_x; obtain ⟨s_y, a_y, n_y, c_y, d0y, d1y, h_y⟩ := Rp.o.get p Hpsp.o; rw [Hy.o] at h_y; have Vy := hZ h_y; clear h_y; obtain ⟨s_q, a_q, n_q, c_q, t_q, h_q⟩ := Fq.o; have d0q := t_q.cell0; have d1q := t_q.cell1; have Vq := hZ h_q; clear t_q h_q; refine pU 0 109 ?_; refine pU 1 110 ?_; refine pU 2 111 ?_; refine pU 3 112 ?_; refine pU 4 113 ?_; refine tV 5 114 (cF d0x Rr.o.lt) (cF d1x Rr.o.lt) ?_; refine tV 6 115 (cF d0q Fq.o.lt) (cF d1q Fq.o.lt) ?_; refine pU 7 116 ?_; refine pU 8 117 ?_; refine pU 9 118 ?_; refine tU 10 119 (cF e0 RX.o.lt) ?_; refine pU 11 120 ?_; refine pU 12 121 ?_; refine tV 13 122 (cF d0y Rp.o.lt) (cF d1y Rp.o.lt) ?_; clear e0 d0x d1x d0y d1y Rp; clear d0q d1q; refine eU 14 fun K hK => ?_; go_simp; refine (qBp (w := w8) Vq.o Vy.o Sq.o Sy.o (by omega)).mono ?_; rintro e w9 ⟨s_s, a_s, n_s, c_s, rfl, h_s, hB⟩; have Vs := hZ h_s; replace HBr := oT HBr hB; replace RX := RX.b hB; replace Rr := Rr.b hB; replace Fm := Fm.b hB; replace Fq := Fq.b hB; replace Vx := Vx.b hB; replace Vy := Vy.b hB; replace Vq := Vq.b hB; replace HB := bT HB hB; clear hB; clear h_s; refine hK.out _ _ HBr.o (fun hHeld => ?_); clear hK K
            try simp only [Act.put, sX1, sX2, sX3]
            refine eU 15 fun K hK => ?_; go_simp; refine (qCV (w := w9) (k := 8001) Vx.o Vs.o (Sx.o.mono (by omega)) (Sq.o.mul Sy.o) (by omega)).mono ?_; rintro e w10 ⟨s_z, a_z, n_z, c_z, rfl, h_z, hB⟩; have Vz := hZ h_z; replace HBr := oT HBr hB; replace RX := RX.b hB; replace Rr := Rr.b hB; replace Fm := Fm.b hB; replace Fq := Fq.b hB; replace Vx := Vx.b hB; replace Vy := Vy.b hB; replace Vq := Vq.b hB; replace Vs := Vs.b hB; replace HB := bT HB hB; clear hB; clear h_z; refine hK.out _ _ HBr.o (fun hHeld => ?_); clear hK K
            try simp only [Act.put, sX1, sX2, sX3]
            refine pU 16 125 ?_; obtain ⟨s_9, a_9, n_9, c_9, e0, e1, -⟩ := Rr.o.get (p) Hpr.o; have e2 := Rr.o.frozen (p * 2); have e3 := Rr.o.frozen (p * 2 + 1); have hn9 : qAg w10 (g) := Rr.o.noInt; obtain ⟨w11, hw⟩ := eX ((w10.setCell ⟨g, p * 2, none⟩ (.bool s_z)).setCell ⟨g, p * 2 + 1, none⟩ (.slice a_z n_z c_z)); have hw2 : st2 w10 (g) (p * 2) (p * 2 + 1) s_z a_z n_z c_z = w11 := hw; replace Rr := hZ (qAF.put' Rr.o (p) Hpr.o Vz.o); rw [hw2] at Rr; replace RX := hZ (RwX.off (g := g) (o1 := p * 2) (o2 := p * 2 + 1) (s := s_z) (a := a_z) (n' := n_z) (c := c_z) RX.o hn9 ⟨HWg.o.1.symm, fun i hi hij e => RX.o.nodup i t hi htl hij (e.trans HG.o.symm)⟩); rw [hw2] at RX; replace Fm := hZ (Fm.o.offe hw2 hn9 (by have := HWg.o; have := Hbq.o; omega)); replace Fq := hZ (Fq.o.offe hw2 hn9 (by have := HWg.o; have := Hbq.o; omega)); replace Vx := hZ (Vx.o.offe hw2 hn9); replace Vy := hZ (Vy.o.offe hw2 hn9); replace Vq := hZ (Vq.o.offe hw2 hn9); replace Vs := hZ (Vs.o.offe hw2 hn9); replace Vz := hZ (Vz.o.offe hw2 hn9); replace HB := hZ (bO hw2 HB.o (by have := HWg.o; have := HLR.o; omega)); clear hw2 hn9; refine lU 17 fun K hK => ?_; go_simp
            try rw [hw]
            refine hK.out _ _ ?_; clear hK K
            try simp only [Act.put, sX1, sX2, sX3]
            clear hw e0 e1 e2 e3; refine dU ?_; clear hHeld; clear Vx Vy Vq Vs Vz; have HK2 : Hid (qFL m qq j p (p + 1) sp row1 (row1.set p (x - qq * y))) := hZ (by have h1 := qFL.start (m := m) (q := qq) (sj := sp) Hrl.o hpj HB1.o (by rw [qAk Hpr.o, qAk Hpsp.o, Hx.o, Hy.o, Hqq.o]) (by rw [qAk Hpsp.o, Hy.o]; exact ⟨hy0, HBy.o.2⟩); rw [qAk Hpr.o, qAk Hpsp.o, Hx.o, Hy.o] at h1; exact h1)
            go_wp2_with fail
            go_loopw [19] (fun i wr => ∃ (k : Nat) (row2 : List Int), p + 1 <= k /\ k <= j /\ i = .int .i64 k /\ Hid (qFL m qq j p k sp row1 row2) /\ Hid (RwX wr R l j sq1 t) /\ Hid (qAF wr g row2) /\ Hid (Bx wr bq qq) /\ Hid (Bx wr b7 m) /\ Hid (Below w0.heap.size w0 wr)) (fun i _ => j - (intOf i).toNat)
            case atStart => exact ⟨p + 1, _, by omega, by omega, by go_num, HK2, RX, Rr, Fq, Fm, HB⟩
            case round =>
             clear HK2 RX Rr Fq Fm HB; obtain ⟨k, row2, hpk, hk, rfl, HK2, RX, Rr, Fq, Fm, HB⟩ := hrel; obtain ⟨w11, rfl⟩ := eY wr; by_cases hkj : k < j
             ·skip
              have k1 : (0 : Int) <= (k : Int) := by omega
              have k2 : (k : Int) < (j : Int) := by omega
              have Hks : Hid (k < sp.length) := hZ (by rw [HSl.o]; exact hkj); have Hkr : Hid (k < row2.length) := hZ (by rw [HK2.o.len]; exact hkj); have e0 := RX.o.get p hpl2; rw [HGp.o.1, HGp.o.2] at e0; have Rp := hZ (RP.o _ RX.o).1; obtain ⟨s_u, a_u, n_u, c_u, d0u, d1u, h_u⟩ := Rp.o.get k Hks.o; obtain ⟨u, hu⟩ := eX (sp[k]'Hks.o); rw [hu] at h_u; have Vu := hZ h_u; have Hu := hZ hu; have Su : Hid (Sz 4000 u) := hZ (qEF Sm.o (hu ▸ HBsp.o _ (List.getElem_mem _))); clear h_u hu
              go_wp2_with fail
              clear e0 d0u d1u Rp; by_cases hu0 : u = 0
              ·skip
               refine (qAD (w := w11) Vu.o Su.o (by omega)).mono ?_; rintro e w12 ⟨he, hB⟩; rw [show qAK u 0 = 0 by rw [hu0]; exact qAS 0] at he; subst he; replace RX := RX.b hB; replace Rr := Rr.b hB; replace Fq := Fq.b hB; replace Fm := Fm.b hB; replace Vu := Vu.b hB; replace HB := bT HB hB; clear hB
               go_wp2_with fail
               go_roundw
               case rel => exact ⟨k + 1, row2, by omega, by omega, by go_num, hZ (HK2.o.skip (by omega) (by rw [qAk Hks.o, Hu.o]; exact hu0)), RX, Rr, Fq, Fm, HB⟩
               case measure => simp [intOf]; omega
              ·skip
               refine (qAD (w := w11) Vu.o Su.o (by omega)).mono ?_; rintro e w12 ⟨he, hB⟩; obtain ⟨sgu, hs9, q0u, q1u⟩ := qA0 (x := u) hu0; rw [hs9] at he; subst he; clear hs9; replace RX := RX.b hB; replace Rr := Rr.b hB; replace Fq := Fq.b hB; replace Fm := Fm.b hB; replace Vu := Vu.b hB; replace HB := bT HB hB; clear hB
               go_wp2_with fail
               clear Vu; clear q0u q1u; obtain ⟨w13, hwd⟩ := eX w12.drew; have hB := dB hwd; replace RX := RX.b hB; replace Rr := Rr.b hB; replace Fq := Fq.b hB; replace Fm := Fm.b hB; replace HB := bT HB hB; clear hB; have HBr : Hid (qAc (fun b => False) w13 w13) := hZ (qAc.refl _ _); refine qAx [19] (fun w' => qAc (fun b => False) w13 w') (by kernel_rfl) (by rw [hwd]; exact qAc.refl _ _) (fun hHeld => ?_); rw [hwd] at hHeld ⊢; clear hwd; have e0 := RX.o.get p hpl2; rw [HGp.o.1, HGp.o.2] at e0; have Rp := hZ (RP.o _ RX.o).1; obtain ⟨s_x, a_x, n_x, c_x, d0x, d1x, h_x⟩ := Rr.o.get k Hkr.o; obtain ⟨xx, hxx⟩ := eX (row2[k]'Hkr.o); rw [hxx] at h_x; have Vx := hZ h_x; have Hxx := hZ hxx; have Sxx : Hid (Sz 4000 xx) := hZ (qEF Sm.o (hxx ▸ HK2.o.bd _ (List.getElem_mem _))); clear h_x hxx; obtain ⟨s_y, a_y, n_y, c_y, d0y, d1y, h_y⟩ := Rp.o.get k Hks.o; rw [Hu.o] at h_y; have Vy := hZ h_y; clear h_y; obtain ⟨s_q, a_q, n_q, c_q, t_q, h_q⟩ := Fq.o; have d0q := t_q.cell0; have d1q := t_q.cell1; have Vq := hZ h_q; clear t_q h_q; obtain ⟨s_m, a_m, n_m, c_m, t_m, h_m⟩ := Fm.o; have d0m := t_m.cell0; have d1m := t_m.cell1; have Vm := hZ h_m; clear t_m h_m; refine pU 0 143 ?_; refine pU 1 144 ?_; refine pU 2 145 ?_; refine pU 3 146 ?_; refine pU 4 147 ?_; refine tV 5 148 (cF d0x Rr.o.lt) (cF d1x Rr.o.lt) ?_; refine tV 6 149 (cF d0q Fq.o.lt) (cF d1q Fq.o.lt) ?_; refine pU 7 150 ?_; refine pU 8 151 ?_; refine pU 9 152 ?_; refine tU 10 153 (cF e0 RX.o.lt) ?_; refine pU 11 154 ?_; refine pU 12 155 ?_; refine tV 13 156 (cF d0y Rp.o.lt) (cF d1y Rp.o.lt) ?_; refine tV 16 159 (cF d0m Fm.o.lt) (cF d1m Fm.o.lt) ?_; clear e0 d0x d1x d0y d1y Rp; clear d0q d1q d0m d1m; refine eU 14 fun K hK => ?_; go_simp; refine (qBp (w := w13) Vq.o Vy.o Sq.o Su.o (by omega)).mono ?_; rintro e w14 ⟨s_s, a_s, n_s, c_s, rfl, h_s, hB⟩; have Vs := hZ h_s; replace HBr := oT HBr hB; replace RX := RX.b hB; replace Rr := Rr.b hB; replace Fq := Fq.b hB; replace Fm := Fm.b hB; replace Vx := Vx.b hB; replace Vy := Vy.b hB; replace Vq := Vq.b hB; replace Vm := Vm.b hB; replace HB := bT HB hB; clear hB; clear h_s; refine hK.out _ _ HBr.o (fun hHeld => ?_); clear hK K
               try simp only [Act.put, sX1, sX2, sX3]
               refine eU 15 fun K hK => ?_; go_simp; refine (qCV (w := w14) (k := 8001) Vx.o Vs.o (Sxx.o.mono (by omega)) (Sq.o.mul Su.o) (by omega)).mono ?_; rintro e w15 ⟨s_v, a_v, n_v, c_v, rfl, h_v, hB⟩; have Vv := hZ h_v; replace HBr := oT HBr hB; replace RX := RX.b hB; replace Rr := Rr.b hB; replace Fq := Fq.b hB; replace Fm := Fm.b hB; replace Vx := Vx.b hB; replace Vy := Vy.b hB; replace Vq := Vq.b hB; replace Vm := Vm.b hB; replace Vs := Vs.b hB; replace HB := bT HB hB; clear hB; clear h_v; refine hK.out _ _ HBr.o (fun hHeld => ?_); clear hK K
               try simp only [Act.put, sX1, sX2, sX3]
               refine eU 17 fun K hK => ?_; go_simp; refine (qDc (w := w15) (k := 8002) (l := 4000) Vv.o Vm.o ((Sxx.o.mono (by omega)).sub (Sq.o.mul Su.o)) Sm.o (by omega) (by omega) (by omega)).mono ?_; rintro e w16 ⟨s_z, a_z, n_z, c_z, rfl, h_z, hB⟩; have Vz := hZ h_z; replace HBr := oT HBr hB; replace RX := RX.b hB; replace Rr := Rr.b hB; replace Fq := Fq.b hB; replace Fm := Fm.b hB; replace Vx := Vx.b hB; replace Vy := Vy.b hB; replace Vq := Vq.b hB; replace Vm := Vm.b hB; replace Vs := Vs.b hB; replace Vv := Vv.b hB; replace HB := bT HB hB; clear hB; clear h_z; refine hK.out _ _ HBr.o (fun hHeld => ?_); clear hK K
               try simp only [Act.put, sX1, sX2, sX3]
               refine pU 18 161 ?_; obtain ⟨s_9, a_9, n_9, c_9, e0, e1, -⟩ := Rr.o.get (k) Hkr.o; have e2 := Rr.o.frozen (k * 2); have e3 := Rr.o.frozen (k * 2 + 1); have hn9 : qAg w16 (g) := Rr.o.noInt; obtain ⟨w17, hw⟩ := eX ((w16.setCell ⟨g, k * 2, none⟩ (.bool s_z)).setCell ⟨g, k * 2 + 1, none⟩ (.slice a_z n_z c_z)); have hw2 : st2 w16 (g) (k * 2) (k * 2 + 1) s_z a_z n_z c_z = w17 := hw; replace Rr := hZ (qAF.put' Rr.o (k) Hkr.o Vz.o); rw [hw2] at Rr; replace RX := hZ (RwX.off (g := g) (o1 := k * 2) (o2 := k * 2 + 1) (s := s_z) (a := a_z) (n' := n_z) (c := c_z) RX.o hn9 ⟨HWg.o.1.symm, fun i hi hij e => RX.o.nodup i t hi htl hij (e.trans HG.o.symm)⟩); rw [hw2] at RX; replace Fq := hZ (Fq.o.offe hw2 hn9 (by have := HWg.o; have := Hbq.o; omega)); replace Fm := hZ (Fm.o.offe hw2 hn9 (by have := HWg.o; have := Hbq.o; omega)); replace Vx := hZ (Vx.o.offe hw2 hn9); replace Vy := hZ (Vy.o.offe hw2 hn9); replace Vq := hZ (Vq.o.offe hw2 hn9); replace Vm := hZ (Vm.o.offe hw2 hn9); replace Vs := hZ (Vs.o.offe hw2 hn9); replace Vv := hZ (Vv.o.offe hw2 hn9); replace Vz := hZ (Vz.o.offe hw2 hn9); replace HB := hZ (bO hw2 HB.o (by have := HWg.o; have := HLR.o; omega)); clear hw2 hn9; refine lU 19 fun K hK => ?_; go_simp
               try rw [hw]
               refine hK.out _ _ ?_; clear hK K
               try simp only [Act.put, sX1, sX2, sX3]
               clear hw e0 e1 e2 e3; refine dU ?_; clear hHeld
               go_wp2_with fail
               go_roundw
               case rel => exact ⟨k + 1, row2.set k ((xx - qq * u) % m), by omega, by omega, by go_num, hZ (HK2.o.step hm0 (by omega) hkj (by rw [qAk Hkr.o, qAk Hks.o, Hxx.o, Hu.o])), RX, Rr, Fq, Fm, HB⟩
               case measure => simp [intOf]; omega
             ·skip
              obtain rfl : k = j := by omega
              go_wp2_with fail
              go_roundw
              case rel => exact ⟨p + 1, row2, by omega, by omega, by go_num, hZ (qFL.red HTr.o Hsl.o HR1.o (by omega) hpj Hrl.o (by rw [HSp.o, qAk Hpr.o, qAk Hpsp.o, Hx.o, Hy.o, Hqq.o]) (by rw [HSp.o]; exact HK2.o)), hZ HK2.o.bd, hZ HK2.o.len, RX, Rr, Fm, HB⟩
              case measure => simp [intOf]; omega
         ·skip
          obtain rfl : p = j := by omega
          go_wp2_with fail
          go_roundw
          case rel => exact ⟨t + 1, sq1.set t row1, by omega, by go_num, hZ (HRd.o.step hts1 hts (by rw [HRow.o]; exact HR1.o) HB1.o), hZ (RX.o.close htl (by rw [HG.o]; exact Rr.o) Hrl.o), Fm, HB⟩
          case measure => simp [intOf]; omega
       ·skip
        obtain rfl : t = j := by omega
        go_wp2_with fail
        go_ret; exact ⟨R, l, sq, sq1, by rw [HK.o]; rfl, by rw [HK.o]; exact RS.o, by rw [HK.o]; exact HLn.o, by rw [HK.o]; exact HQ1.o, by rw [HK.o]; exact qJu.done (by rw [Hsl.o]; exact HRd.o), HRd.o.bd, HB.o⟩
end Go.Proofs.Ytlmbebbdamgfpaa
