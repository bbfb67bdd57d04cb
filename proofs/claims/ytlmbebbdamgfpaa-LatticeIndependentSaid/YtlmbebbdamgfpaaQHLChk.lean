/- lattice.check. -/
import Derived.Test.YtlmbebbdamgfpaaQHLTriA
import Derived.Test.YtlmbebbdamgfpaaQHLNormE
import Derived.Test.YtlmbebbdamgfpaaQHLSmall
import Derived.Test.YtlmbebbdamgfpaaQHLMat
set_option linter.unusedVariables false
set_option linter.unusedSimpArgs false
set_option maxHeartbeats 8000000
set_option maxRecDepth 100000
namespace Go.Proofs.Ytlmbebbdamgfpaa
open Go.RowKit
theorem qKQ {ps : List Nat} {f fr : Nat} (h : ∀ q (h : q < ps.length), q < f -> ps[q] < fr) (hf : f < ps.length) (hp : ps[f] < fr) : ∀ q (h : q < ps.length), q < f + 1 -> ps[q] < fr := by
 intro q hq hqf; by_cases e : q = f
 ·subst e; exact hp
 ·exact h q hq (by omega)
theorem qEU {w : World} {base n g b : Nat} {v : Value} {xs : List Value} {zs : List Int} (h : qCt w base 55 1 v n xs) (hb : v.ownBlock = some b) (hr : qAF w g zs) : g ≠ b := by
 rintro rfl; obtain ⟨cs, h1, -⟩ := hr; rcases h.1.2 with ⟨hv, _⟩ | ⟨g', cap, cur, hv, _, hg, _⟩
 ·rw [hv] at hb; cases hb
 ·rw [hv] at hb
  simp only [Value.ownBlock, Option.some.injEq] at hb; subst hb; unfold qAE at h1; rw [h1] at hg; injection hg with hg; injection hg with _ hg2 _; exact absurd hg2 (by decide)
theorem qEI.of_own {w : World} {base N : Nat} {v : Value} {l : List Rw} {M : List (List Int)} (h : qCt w base 55 1 v l.length (l.map (rwC N))) (hr : qAC w l N M) : qEI w v M := by
 refine qAh.of_own (css := l.map (fun x => [rwC N x])) (base := base) (e := 55) (by rw [qBA, List.length_map]; exact h.1) (fun cs h => by obtain ⟨x, _, rfl⟩ := List.mem_map.1 h; rfl) (by rw [List.length_map]; exact hr.len.symm) (fun j h1 h2 => ?_); have h3 : j < l.length := by rw [<- hr.len]; exact h1
 obtain ⟨k1, k2⟩ := hr.row j h3; rw [List.getElem_map]; refine ⟨_, rfl, ?_⟩; have := k1.of_ (c := l[j].2) (by rw [k2]; exact (hr.cap j h3).1) (hr.cap j h3).2; rw [k2] at this; exact this
def qDn (w0 : World) (M0 : List (List Int)) (n fr : Nat) (e : Ending) (w' : World) : Prop :=
 ∃ vr H, e = .returned vr /\ qEI w' vr H /\ (∀ r ∈ H, r.length = n - fr) /\ (∀ r ∈ H, ∀ x ∈ r, Sz 8100 x) /\ H.length <= M0.length /\ qAw (M0.map vec) fr (H.map vec) /\ Below w0.heap.size w0 w'
theorem qJM {sq M : List (List Int)} {k : Nat} {d : Int} {f fr n : Nat} (hs : ∀ r ∈ sq, ∀ x ∈ r, Sz 4001 x) (hM : ∀ r ∈ M, ∀ x ∈ r, Sz 4000 x) (hk : k <= M.length) (hl : M.length <= 64) (hd : d ≠ 0) : ∀ r ∈ qEk sq M k d f fr n, ∀ x ∈ r, Sz 8100 x := by
 intro r hr x hx; obtain ⟨s, hs2, rfl⟩ := List.mem_map.1 hr; obtain ⟨j, _, rfl⟩ := List.mem_map.1 hx; exact ((qHc (hs s (List.mem_of_mem_drop hs2)) hM k hk hl).div hd).mono (by omega)
theorem qG1 (w0 : World) (v : Value) (M0 : List (List Int)) (n fr : Nat) (h : qEI w0 v M0) (hM : M0.length <= 1000) (hn : ∀ r ∈ M0, r.length = 0) :
 Calls Try.prog 32 #[v, .int .i64 fr] w0 (qDn w0 M0 n fr) := by
 obtain ⟨av, cv, rfl, q1, q2⟩ := qAh.form h; have HN : Hid (qAw (M0.map vec) fr []) := hZ (qCg hn fr); have HL := hZ (qEW _ M0 w0 h hM hn); have HB := hZ (Below.refl w0.heap.size w0); clear h hn
 go_enter Try.func32, Try.ntmps32
 go_wp2_with fail
 refine HL.o.mono ?_; rintro e w1 ⟨B, rfl, h1, h2, hB⟩; have HE := hZ (qCN w1 B M0.length M0.length hM h1 h2); replace HB := bT HB hB; clear hB h1 h2 HL
 go_wp2_with fail
 refine HE.o.mono ?_; rintro e w2 ⟨s_d, a_d, n_d, c_d, rfl, h1, hB⟩; replace HB := bT HB hB; clear hB HE; have Vd := hZ h1; clear h1; obtain ⟨w3, hw⟩ := eX ((w2.alloc (.cells #[.bool s_d, .slice a_d n_d c_d] 58))); have hB := aB hw; obtain ⟨bd, hb_bd⟩ := eX w2.heap.size; have h9 := Bx.new (w := w2) Vd.o; rw [hw, hb_bd] at h9; have Fd' := hZ h9; have hge_bd : w2.heap.size <= bd := by omega
 clear h9; replace Vd := Vd.b hB; replace HB := bT HB hB; have Fd := Fd'; clear Fd'; clear hB
 go_wp2_with fail
 go_loopw [8] (fun i wr => i = .int .i64 0 /\ w3 = wr) (fun _ _ => 0)
 case atStart => exact ⟨rfl, rfl⟩
 case round =>
  obtain ⟨rfl, rfl⟩ := hrel
  go_wp2_with fail
  go_ret; exact ⟨_, [], rfl, qAh.nil _ _ (by omega), by simp, by simp, by simp, HN.o, HB.o⟩
theorem qEV (w0 : World) (v : Value) (M0 : List (List Int)) (n fr : Nat) (h : qEI w0 v M0) (h0 : 0 < M0.length) (hn : ∀ r ∈ M0, r.length = n) (hn0 : 0 < n) (hn2 : n <= 1000) (hfr : fr <= n) (hs : Sml M0) :
 Calls Try.prog 32 #[v, .int .i64 fr] w0 (qDn w0 M0 n fr) := by
 obtain ⟨i0, hi, hz0, hz1, hz2⟩ := info_parts qKm; have Hi := hZ hi; have Hz0 := hZ hz0; have Hz1 := hZ hz1; have Hz2 := hZ hz2; clear hi hz0 hz1 hz2; obtain ⟨av, cv, rfl, q1, q2⟩ := qAh.form h; have hM := hs.1; have H := hZ h; have Hn := hZ hn; have HS := hZ hs; have HL := hZ (qGc _ M0 n w0 h (by omega) hn hn0 hn2); have HB := hZ (Below.refl w0.heap.size w0); clear h hn hs
 go_enter Try.func32, Try.ntmps32
 go_wp2_with fail
 refine HL.o.mono ?_; rintro e w1 ⟨B, l0, rfl, hLn, hl, hgB, hgl, hB⟩; have HE := hZ (qDk w1 B M0.length n l0 M0 hLn (by omega) (by omega) (by omega) hn2 HS.o); have HGl : Hid (w0.heap.size <= B /\ ∀ i (h : i < l0.length), w0.heap.size <= l0[i].1) := hZ ⟨hgB, hgl⟩; replace HB := bT HB hB; clear hB HL hLn hgB hgl; rw [hl] at HE
 go_wp2_with fail
 refine HE.o.mono ?_; rintro e w2 ⟨vp, s_d, a_d, c_d, n_d, d, l, M, ps, col, rfl, h1, h2, h3, hll, h5, h6, h7, ho⟩; obtain ⟨ap, cp, hvp, q3, q4⟩ := h2.form; rw [List.length_map] at hvp q3; subst hvp; have HP := hZ h2; have K := hZ h3; have HEL := hZ h5; have HZ := hZ h6; have HPL := hZ h7; replace HB := hZ (qAj HB.o ho (by rintro b (rfl | ⟨i, hi, rfl⟩); exact HGl.o.1; exact HGl.o.2 i hi) HB.o.size); have hl64 : l.length = M0.length := by omega
 have Hml := hZ h3.len; have Sd := hZ (h5.dsz HS.o); have SM := hZ (h5.sz HS.o); have hd0 := h5.d0; have hpl : ps.length <= M0.length := by have := h5.le; have := h3.len; omega
 have Vd : Hid (qAz w2 (.agg #[.bool s_d, .slice a_d n_d c_d]) d) := hZ h1; have HMn := hZ h3.rowsN; clear HE HGl h1 h2 h3 h5 h6 h7 ho hl hll; obtain ⟨w3, hw⟩ := eX ((w2.alloc (.cells #[.bool s_d, .slice a_d n_d c_d] 58))); have hB := aB hw; obtain ⟨bd, hb_bd⟩ := eX w2.heap.size; have h9 := Bx.new (w := w2) Vd.o; rw [hw, hb_bd] at h9; have Fd' := hZ h9; have hge_bd : w2.heap.size <= bd := by omega
 clear h9; replace Vd := Vd.b hB; replace K := K.b hB; replace HB := bT HB hB; have Fd := Fd'; clear Fd'; clear hB; replace HP := hZ (HP.o.below (show Below w2.heap.size w2 w3 by rw [<- hw]; exact (Below.refl _ _).alloc (Nat.le_refl _) _))
 go_wp2_with fail
 clear hw hb_bd; clear Vd; clear hge_bd
 go_loopw [8] (fun i wr => ∃ f : Nat, f <= ps.length /\ i = .int .i64 f /\ Hid (∀ q (h : q < ps.length), q < f -> ps[q] < fr) /\ w3 = wr) (fun i _ => ps.length - (intOf i).toNat)
 case atStart => exact ⟨0, by omega, rfl, hZ (fun q h h2 => by omega), rfl⟩
 case round =>
  obtain ⟨f, hf, rfl, HF, rfl⟩ := hrel; by_cases hfl : f < ps.length
  ·skip
   have i1 : (0 : Int) <= (f : Int) := by omega
   have i2 : (f : Int) < (ps.length : Int) := by omega
   obtain ⟨b2, cap2, hv, hb2, n2⟩ := HP.o.at_ f (by simpa using hfl); rw [List.length_map] at hv; injection hv with f1 f2 f3; subst f1; clear f2 f3; rw [List.getElem_map] at n2; obtain ⟨p, hp⟩ := eX (ps[f]); rw [hp] at n2; have Hp := hZ hp; clear hp hb2; by_cases hpf : p < fr
   ·skip
    have s1 : (p : Int) < (fr : Int) := by omega
    go_wp2_with fail
    go_roundw
    case rel => exact ⟨f + 1, by omega, by go_num, hZ (qKQ HF.o hfl (by rw [Hp.o]; exact hpf)), by trivial⟩
    case measure => simp [intOf]; omega
   ·skip
    have s1 : ¬ (p : Int) < (fr : Int) := by omega
    have s2 : ((f : Int) == (ps.length : Int)) = false := by rw [beq_eq_false_iff_ne]; omega
    have s3 : (f == ps.length) = false := by rw [beq_eq_false_iff_ne]; omega
    have Hfr2 : Hid (fr <= ps[f]) := hZ (by rw [Hp.o]; omega); obtain ⟨s_q, a_q, n_q, c_q, t_q, h_q⟩ := Fd.o; have d0q := t_q.cell0; have d1q := t_q.cell1; have Vq := hZ h_q; clear t_q h_q
    go_wp2_with fail
    clear s1 s2 s3 n2; clear d0q d1q; have HT := hZ (qFP w3 _ _ _ M0 n ps d (H.o.blw HB.o) (by omega) Hn.o hn2 HP.o HPL.o (by omega) Vq.o hd0 Sd.o (fun r hr x hx => Sz.of_pow (HS.o.2 r hr x hx) (by omega))); refine HT.o.mono ?_; rintro e w4 ⟨R, l2, sq, sq2, rfl, hRS, hl2, hq1, hq2, hq3, hB⟩; clear HT; have RS := hZ hRS; have HQ := hZ (And.intro hq1 hq2); clear Vq; replace K := K.b hB; replace Fd := Fd.b hB; replace HB := bT HB hB; clear hB; have hm0 : 0 < (if d < 0 then -d else d) := by split <;> omega
    have Hbq : Hid (∀ r ∈ sq2, ∀ x ∈ r, Sz 4001 x) := hZ (fun r hr x hx => by have h1 := hq3 r hr x hx; exact (Sd.o.of_le (by split at h1 <;> omega)).mono (by omega)); obtain ⟨N, hN⟩ := eX (n - fr); have HNN := hZ hN; have hN1 : N <= 1000 := by omega
    have HH := hZ (HEL.o.norm HZ.o HMn.o rfl hq1 hq2 hfl HF.o Hfr2.o hfr); have HHs := hZ (qJM (f := f) (fr := fr) (n := n) Hbq.o SM.o (show ps.length <= M.length by rw [Hml.o]; omega) (by rw [Hml.o]; omega) hd0); have Hsq : Hid (sq2.length = ps.length) := hZ (by rw [hRS.len]; exact hl2); have HHl : Hid ((qEk sq2 M ps.length d f fr n).length = ps.length - f) := hZ (by unfold qEk; rw [List.length_map, List.length_drop, Hsq.o]); have HHn : Hid (∀ r ∈ qEk sq2 M ps.length d f fr n, r.length = n - fr) := hZ (fun r hr => by obtain ⟨s, _, rfl⟩ := List.mem_map.1 hr; exact qD4); have HHa : Hid (∀ t (h : t < (qEk sq2 M ps.length d f fr n).length) (h' : f + t < sq2.length), (qEk sq2 M ps.length d f fr n)[t] = qHb sq2[f + t] M ps.length d fr N) := hZ (fun t h h' => by rw [<- HNN.o]; simp [qEk]); generalize qEk sq2 M ps.length d f fr n = Hm at *; have HRL : Hid (l2.length = ps.length) := hZ hl2; clear hRS hq1 hq2 hq3 hN hl2 HQ HF Hfr2
    go_wp2_with fail
    obtain ⟨WB, hWB⟩ : ∃ W : World, W = w4 := ⟨_, rfl⟩; rw [<- hWB] at K Fd RS HB; have KL := K; clear K; have HBL : Hid (Below WB.heap.size WB w4) := hZ (by rw [hWB]; exact Below.refl _ _); have Wp : Hid (qCt w4 WB.heap.size 55 1 (.slice none 0 0) ([] : List Rw).length (([] : List Rw).map (rwC N))) := hZ (qCt.nil _ _ _ _); clear hWB
    go_loopw [10, 11] (fun vr i wr => ∃ (t : Nat) (gl : List Rw), f <= t /\ t <= ps.length /\ i = .int .i64 t /\ Hid (gl.length = t - f) /\ Hid (qCt wr WB.heap.size 55 1 vr gl.length (gl.map (rwC N))) /\ Hid (qAC wr gl N (Hm.take (t - f))) /\ Hid (Below WB.heap.size WB wr)) (fun _ i _ => ps.length - (intOf i).toNat)
    case atStart => exact ⟨f, [], by omega, by omega, rfl, hZ (by simp), Wp, hZ (by rw [Nat.sub_self]; exact qAC.nil _ _), HBL⟩
    case round =>
     clear Wp HBL; obtain ⟨t, gl, hft, ht, rfl, HG, Wp, RI, HBL⟩ := hrel; obtain ⟨w4, rfl⟩ := eY wr; obtain ⟨pa, pc, hv, hpc1, hpc2⟩ := Wp.o.form; subst hv; rw [HG.o] at hpc1; by_cases htl : t < ps.length
     ·skip
      have i1 : (0 : Int) <= (t : Int) := by omega
      have i2 : (t : Int) < (ps.length : Int) := by omega
      have htl2 : t < l2.length := by rw [HRL.o]; exact htl
      have hts : t < sq2.length := by rw [Hsq.o]; exact htl
      have htm : t - f < Hm.length := by have := HHl.o; omega
      obtain ⟨gs, hgs⟩ := eX (l2[t].1); obtain ⟨cs, hcs⟩ := eX (l2[t].2); have Hgs := hZ (And.intro hgs hcs); clear hgs hcs
      go_wp2_with fail
      have HOl := hZ Wp.o.lt; obtain ⟨w5, hwd⟩ := eX w4.drew; have hB := dB hwd; replace RI := RI.b hB; replace Wp := Wp.b hB; replace HBL := bT HBL hB; clear hB; have HBr : Hid (qAc (fun b => False) w5 w5) := hZ (qAc.refl _ _); refine qAx [10, 11] (fun w' => qAc (fun b => False) w5 w') (by kernel_rfl) (by rw [hwd]; exact qAc.refl _ _) (fun hHeld => ?_); rw [hwd] at hHeld ⊢; clear hwd; have e0 := (RS.o.blw HBL.o).get t htl2; rw [Hgs.o.1, Hgs.o.2] at e0; obtain ⟨s_q, a_q, n_q, c_q, t_q, h_q⟩ := (Fd.o.blw HBL.o); have d0q := t_q.cell0; have d1q := t_q.cell1; have Vq := hZ h_q; have hlR := (RS.o.blw HBL.o).lt; have hlD := t_q.lt; clear t_q h_q; refine pU 0 48 ?_; refine pU 1 49 ?_; refine pU 2 50 ?_; refine pU 3 51 ?_; refine tU 4 52 (cF e0 hlR) ?_; refine pU 5 53 ?_; refine tV 6 54 (cF d0q hlD) (cF d1q hlD) ?_; refine pU 7 55 ?_; clear e0 d0q d1q hlR hlD; refine eU 8 fun K hK => ?_; go_simp; obtain ⟨hrw, hrl⟩ := (RS.o.blw HBL.o).rows.row t htl2; rw [Hgs.o.1] at hrw; have hcap := (RS.o.rows.cap t htl2); rw [Hgs.o.2] at hcap; have hWO : WOf w5 (.slice (some ⟨gs, 0, none⟩) ps.length cs) sq2[t] := by have := hrw.of_ (c := cs) (by rw [hrl]; exact hcap.1) hcap.2; rwa [hrl] at this
      have HX := hZ (qIs _ _ sq2[t] w5 B M0.length n fr l M d hWO (by rw [hrl]; omega) (KL.o.blw HBL.o) (by omega) (by omega) (by omega) (by omega) Vq.o hd0 hfr hn2 (Hbq.o _ (List.getElem_mem _)) SM.o Sd.o); rw [hrl, HNN.o, hl64] at HX; clear hWO hrw hrl hcap; refine HX.o.mono ?_; rintro e w6 ⟨g, rfl, hr9, hge, hB⟩; clear HX; have Rr := hZ hr9; replace HBr := oT HBr hB; have HGg : Hid (∀ i (hi : i < gl.length), gl[i].1 < g) := hZ (fun i hi => Nat.lt_of_lt_of_le (RI.o.lt i hi) hge); replace RI := RI.b hB; replace Wp := Wp.b hB; replace Vq := Vq.b hB; replace HBL := bT HBL hB; clear hB; clear hr9 hge; clear Vq; have hft9 : f + (t - f) = t := by omega
      have hH9 := HHa.o (t - f) htm (by omega); simp only [hft9] at hH9; rw [<- hH9] at Rr; clear hH9 hft9; refine hK.out _ _ HBr.o (fun hHeld => ?_); clear hK K
      try simp only [Act.put, sX1, sX2, sX3]
      refine eU 9 fun K hK => ?_; go_simp; obtain ⟨w7, hw⟩ := eX (w6.alloc (.cells #[.slice (some ⟨g, 0, none⟩) N N] 55)); have hB := aB hw; obtain ⟨gs9, hg9⟩ := eX w6.heap.size; have On' : Hid (One w7 gs9 55 (.slice (some ⟨g, 0, none⟩) N N)) := hZ (by rw [<- hw, <- hg9]; exact One.new _ _ _); replace HBr := oT HBr hB
      try rw [hw]
      try rw [hg9]
      replace RI := RI.b hB; replace Wp := Wp.b hB; replace Rr := Rr.b hB; replace HBL := bT HBL hB; clear hB; have On := On'; clear On' hw hg9; refine hK.out _ _ HBr.o (fun hHeld => ?_); clear hK K
      try simp only [Act.put, sX1, sX2, sX3]
      refine lU 10 fun K hK => ?_; refine qII rfl 58 rfl _ _ 47 rfl WB.heap.size 55 i0 _ 1 24 Try.underlying47 Hi.o Hz0.o Hz1.o Hz2.o rfl (by decide) (by intro u hu x; simp [Value.cells] at hu; subst hu; intro e; cases e) _ gl.length (gl.map (rwC N)) rfl Wp.o ⟨gs9, 0, none⟩ 1 1 [.slice (some ⟨g, 0, none⟩) N N] rfl rfl ?_ (by simp [Value.oneCell']) (by intro u hu x; simp at hu; subst hu; intro e; cases e) (by decide) (by unfold maxLen; have := HG.o; omega) (by have := HG.o; omega) HBL.o.size ?_
      ·intro j u hu
       match j, hu with
       | 0, hu => simp at hu; subst hu; exact On.o.cell
       | j + 1, hu => simp at hu
      intro v5 w5' hown hon; have hN : ∀ b, (Value.slice pa gl.length pc).ownBlock = some b -> qAg w7 b := Wp.o.2; obtain ⟨w8, rfl⟩ := eY w5'; replace RI := hZ (RI.o.only hon hN (fun i hi e => qEU Wp.o e (RI.o.row i hi).1 rfl)); replace Rr := hZ (Rr.o.only hon hN (fun e => qEU Wp.o e Rr.o rfl)); replace HBL := hZ (qAj HBL.o hon (fun b e => (Wp.o.lt b e).1) HBL.o.size); replace Wp := hZ hown; clear hon hown hN On; refine hK.out _ _ ?_; clear hK K
      try simp only [Act.put, sX1, sX2, sX3]
      refine pU 11 10 ?_; refine dU ?_; clear hHeld
      go_wp2_with fail
      go_roundw
      case rel => exact ⟨t + 1, gl ++ [(g, N)], by omega, by omega, by go_num, hZ (by have := HG.o; simp; omega), hZ (by have h1 := Wp.o; rw [List.length_append, List.map_append]; exact h1), hZ (by rw [show t + 1 - f = t - f + 1 by omega, List.take_succ_eq_append_getElem htm]; exact RI.o.snoc Rr.o (by rw [HHn.o _ (List.getElem_mem _), HNN.o]) (fun i hi => by have := HGg.o i hi; omega) (Nat.le_refl _) (by omega)), HBL⟩
      case measure => simp [intOf]; omega
     ·skip
      have s1 : ¬ (t : Int) < (ps.length : Int) := by omega
      have Htt : Hid (t - f = Hm.length) := hZ (by have := HHl.o; omega)
      go_wp2_with fail
      go_ret; have h1 := RI.o; rw [List.take_of_length_le (by have := Htt.o; omega)] at h1; exact ⟨_, Hm, rfl, qEI.of_own Wp.o h1, HHn.o, HHs.o, by have := HHl.o; omega, HH.o, HB.o.trans (HBL.o.mono HB.o.size)⟩
  ·skip
   obtain rfl : f = ps.length := by omega
   have HN := hZ (HEL.o.norm0 HZ.o (fr := fr) (fun p hp => by obtain ⟨q, hq, rfl⟩ := List.mem_iff_getElem.1 hp; exact HF.o q hq hq))
   go_wp2_with fail
   go_ret; exact ⟨_, [], rfl, qAh.nil _ _ (by omega), by simp, by simp, by simp, HN.o, HB.o⟩
open Go.RowKit
theorem qC1 (v : Value) (m : List (List Int)) (n : Nat) (w0 : World) (h : qAA w0 v m) (hm : m.length <= 1000) (hn : ∀ r ∈ m, r.length = n) (hn2 : n <= 1000) (hs : ∀ r ∈ m, ∀ x ∈ r, -9223372036854775808 <= x /\ x <= 9223372036854775807) :
 Calls Try.prog 33 #[v] w0 fun e w' => ∃ R l, e = .returned (.slice (some ⟨R, 0, none⟩) m.length m.length) /\ qCd w' R l n m /\ l.length = m.length /\ w0.heap.size <= R /\ (∀ i (h : i < l.length), w0.heap.size <= l[i].1) /\ (∀ i (h : i < l.length), l[i].2 = n) /\ Below w0.heap.size w0 w' := by
 have H := hZ h; obtain ⟨av, cv, rfl, q1, q2⟩ := h.form; have Hn := hZ hn; have Hs := hZ hs; have HB := hZ (Below.refl w0.heap.size w0); clear h hn hs
 go_enter Try.func33, Try.ntmps33
 go_wp2_with (at_make; refine qBI rfl rfl (m.length) rfl rfl rfl rfl (by omega) ?_)
 intro w1 h_9 hB hlt9; obtain ⟨R, hb⟩ := eX w0.heap.size; rw [hb] at h_9 ⊢; have Ob' := hZ h_9; have hge_R : Hid (w0.heap.size <= R) := hZ (Nat.le_of_eq hb); have hlt_R : Hid (R < w1.heap.size) := hZ (by rw [<- hb]; exact hlt9); clear h_9 hb hlt9; replace HB := bT HB hB; clear hB; have Ob := Ob'; clear Ob'
 go_wp2_with fail
 have HgR : Hid (w0.heap.size <= R) := hZ hge_R.o; clear hge_R hlt_R
 go_loopw [13] (fun i wr => ∃ (j : Nat) (l : List Rw), j <= m.length /\ i = .int .i64 j /\ Hid (l.length = j /\ (∀ k (h : k < l.length), R < l[k].1) /\ ∀ k (h : k < l.length), l[k].2 = n) /\ Hid (qAE wr R 55 (rwZ n l (m.length - j))) /\ Hid (qAC wr l n (m.take j)) /\ Hid (Below w0.heap.size w0 wr)) (fun i _ => m.length - (intOf i).toNat)
 case atStart => exact ⟨0, [], by omega, rfl, hZ ⟨rfl, fun k h => by simp at h, fun k h => by simp at h⟩, hZ (by simpa [rwZ] using Ob.o), hZ (qAC.nil _ _), HB⟩
 case round =>
  clear HB Ob; obtain ⟨j, l, hj, rfl, HL, Ob, RI, HB⟩ := hrel; obtain ⟨w1, rfl⟩ := eY wr; by_cases hlt : j < m.length
  ·skip
   obtain ⟨b, cap, a, c, hv, hb, n1, HI, g1, g2⟩ := H.o.at_ j hlt; injection hv with f1 f2 f3; subst f1; clear f2 f3; have HI := hZ HI; have Hr : Hid (m[j].length = n) := hZ (Hn.o _ (List.getElem_mem hlt)); have Hsr : Hid (∀ x ∈ m[j], -9223372036854775808 <= x /\ x <= 9223372036854775807) := hZ (Hs.o _ (List.getElem_mem hlt)); have HM : Hid (m.take (j + 1) = m.take j ++ [m[j]]) := hZ (by rw [List.take_succ_eq_append_getElem hlt]); replace n1 := (HB.o.cell (p := ⟨b, j, none⟩) hb).trans n1; generalize m[j] = r at *; have HI0 := hZ (And.intro HI.o g1); clear HI; rw [Hr.o] at n1 HI0; have i1 : (0 : Int) <= (j : Int) := by omega
   have i2 : (j : Int) < (m.length : Int) := by omega
   obtain ⟨HI1, g3⟩ := HI0.o; have HI := hZ HI1; clear HI0 HI1 g1; have g1 := g3; clear g3
   go_wp2_with (at_make; refine qAY rfl rfl (n) rfl rfl rfl rfl (by omega) ?_)
   intro w2 h_9 hB hlt9; obtain ⟨g, hb⟩ := eX w1.heap.size; rw [hb] at h_9 ⊢; have Rr' := hZ h_9; have hge_g : Hid (w1.heap.size <= g) := hZ (Nat.le_of_eq hb); have hlt_g : Hid (g < w2.heap.size) := hZ (by rw [<- hb]; exact hlt9); have HLg : Hid ((∀ k (h : k < l.length), l[k].1 < g) /\ R < g) := hZ ⟨fun k h => by rw [<- hb]; exact RI.o.lt k h, by rw [<- hb]; exact Ob.o.lt⟩; clear h_9 hb hlt9; replace Ob := Ob.b hB; replace RI := RI.b hB; replace HB := bT HB hB; clear hB; have Rr := Rr'; clear Rr'; have HGG : Hid (w0.heap.size <= g) := hZ (by have := HLg.o.2; have := HgR.o; omega); clear hge_g hlt_g; have Hk : Hid (m.length - j = (m.length - (j + 1)) + 1) := hZ (by omega); rw [Hk.o] at Ob; have e0 : w2.cell? ⟨R, j, none⟩ = some (.slice none 0 0) := (Ob.o.cell j).trans (by rw [<- HL.o.1]; exact qCS); have e2 := Ob.o.frozen (j); obtain ⟨w3, hw⟩ := eX (w2.setCell ⟨R, j, none⟩ (.slice (some ⟨g, 0, none⟩) n n)); have ho : qAc (fun b => b = R) w2 w3 := by rw [<- hw]; exact (qAc.refl (fun b => b = R) _).set (p := ⟨R, j, none⟩) rfl _
   have hN : ∀ b, b = R -> qAg w2 b := fun b e => e ▸ Ob.o.noInt qEd; replace Ob := hZ ((by have h1 := Ob.o.set j (.slice (some ⟨g, 0, none⟩) n n); rw [hw] at h1; rw [qFc n HL.o.1] at h1; exact h1)); replace RI := hZ (RI.o.only ho hN (fun i hi => by intro (e : _ = R); have := HL.o.2.1 i hi; omega)); replace Rr := hZ (Rr.o.only ho hN (by intro (e : _ = R); have := HLg.o.2; omega)); replace HB := hZ (qAj HB.o ho (fun b e => by have := HgR.o; omega) HB.o.size); clear ho hN
   go_wp2_with fail
   clear hw e0 e2; have HTl : Hid (r.length = (List.replicate n (0 : Int)).length) := hZ (by rw [Hr.o]; simp)
   go_loopw [26] (fun i wr => ∃ q : Nat, q <= n /\ i = .int .i64 q /\ Hid (qAE wr R 55 (rwZ n (l ++ [(g, n)]) (m.length - (j + 1)))) /\ Hid (qAC wr l n (m.take j)) /\ Hid (qAF wr g (r.take q ++ (List.replicate n 0).drop q)) /\ Hid (Below w0.heap.size w0 wr)) (fun i _ => n - (intOf i).toNat)
   case atStart => exact ⟨0, by omega, rfl, Ob, RI, hZ (by simpa using Rr.o), HB⟩
   case round =>
    clear Ob RI Rr HB; obtain ⟨q, hq, rfl, Ob, RI, Rr, HB⟩ := hrel; obtain ⟨w3, rfl⟩ := eY wr; by_cases hql : q < n
    ·skip
     have i3 : (0 : Int) <= (q : Int) := by omega
     have i4 : (q : Int) < (n : Int) := by omega
     have Hqr : Hid (q < r.length) := hZ (by have := Hr.o; omega); obtain ⟨b2, cap2, hv, hb2, n2⟩ := (qAo.below HI.o HB.o).at_ q Hqr.o; rw [Hr.o] at hv; injection hv with f1 f2 f3; subst f1; clear f2 f3; have Hz : Hid (-9223372036854775808 <= r[q]'Hqr.o /\ r[q]'Hqr.o <= 9223372036854775807) := hZ (Hsr.o _ (List.getElem_mem _)); obtain ⟨z, hz⟩ := eX (r[q]'Hqr.o); have HZ := hZ hz; rw [hz] at Hz n2; clear hz
     go_wp2_with fail
     clear n2; obtain ⟨w4, hwd⟩ := eX w3.drew; have hB := dB hwd; replace Ob := Ob.b hB; replace RI := RI.b hB; replace Rr := Rr.b hB; replace HB := bT HB hB; clear hB; have HBr : Hid (qAc (fun b => False) w4 w4) := hZ (qAc.refl _ _); refine qAx [8] (fun w' => qAc (fun b => False) w4 w') (by kernel_rfl) (by rw [hwd]; exact qAc.refl _ _) (fun hHeld => ?_); rw [hwd] at hHeld ⊢; clear hwd; have e0 : w4.cell? ⟨R, j, none⟩ = some (.slice (some ⟨g, 0, none⟩) n n) := (Ob.o.cell j).trans (by have h1 := HL.o.1; subst h1; rw [qHv (by simp)]; simp); refine pU 0 31 ?_; refine pU 1 32 ?_; refine pU 2 33 ?_; refine tU 3 34 (cF e0 Ob.o.lt) ?_; refine pU 4 35 ?_; refine pU 5 36 ?_; refine eU 6 fun K hK => ?_; go_simp; refine (qEt (w := w4) z Hz.o.1 Hz.o.2).mono ?_; rintro e w5 ⟨s_z, a_z, n_z, c_z, rfl, h_z, hB⟩; have Vz := hZ h_z; replace HBr := oT HBr hB; replace Ob := Ob.b hB; replace RI := RI.b hB; replace Rr := Rr.b hB; replace HB := bT HB hB; clear hB; clear h_z; refine hK.out _ _ HBr.o (fun hHeld => ?_); clear hK K
     try simp only [Act.put, sX1, sX2, sX3]
     refine pU 7 38 ?_; have HBz : Hid (w0.heap.size <= g) := HGG; obtain ⟨s_9, a_9, n_9, c_9, e0, e1, -⟩ := Rr.o.get (q) (by rw [qCf HTl.o (by simp; omega)]; simpa using hql); have e2 := Rr.o.frozen (q * 2); have e3 := Rr.o.frozen (q * 2 + 1); have hn9 : qAg w5 (g) := Rr.o.noInt; obtain ⟨w6, hw⟩ := eX ((w5.setCell ⟨g, q * 2, none⟩ (.bool s_z)).setCell ⟨g, q * 2 + 1, none⟩ (.slice a_z n_z c_z)); have hw2 : st2 w5 (g) (q * 2) (q * 2 + 1) s_z a_z n_z c_z = w6 := hw; replace Rr := hZ (qAF.put' Rr.o (q) (by rw [qCf HTl.o (by simp; omega)]; simpa using hql) Vz.o); rw [hw2] at Rr; replace Ob := hZ (Ob.o.offe hw2 (by have := HLg.o.2; omega)); replace RI := hZ (qAC.off (g := g) (o1 := q * 2) (o2 := q * 2 + 1) (s := s_z) (a := a_z) (n' := n_z) (c := c_z) RI.o hn9 (fun i hi => by have := HLg.o.1 i hi; omega)); rw [hw2] at RI; replace Vz := hZ (Vz.o.offe hw2 hn9); replace HB := hZ (bO hw2 HB.o (by have := HBz.o; omega)); clear hw2 hn9; refine lU 8 fun K hK => ?_; go_simp
     try rw [hw]
     refine hK.out _ _ ?_; clear hK K
     try simp only [Act.put, sX1, sX2, sX3]
     clear hw e0 e1 e2 e3; refine dU ?_; clear hHeld; clear e0
     go_wp2_with fail
     replace Rr : Hid (qAF w6 g (r.take (q + 1) ++ (List.replicate n 0).drop (q + 1))) := hZ (by have h1 := Rr.o; rw [<- HZ.o, qB2 HTl.o (by simpa using hql)] at h1; exact h1); go_roundw
     case rel => exact ⟨q + 1, by omega, by go_num, Ob, RI, Rr, HB⟩
     case measure => simp [intOf]; omega
    ·skip
     obtain rfl : q = n := by omega
     go_wp2_with fail
     go_roundw
     case rel =>
      have hR := Rr.o; rw [List.take_of_length_le (Nat.le_of_eq Hr.o), List.drop_eq_nil_of_le (by simp), List.append_nil] at hR; exact ⟨j + 1, l ++ [(g, q)], by omega, by go_num, hZ ⟨by have := HL.o.1; simp; omega, qB5 (P := fun (x : Rw) => R < x.1) HL.o.2.1 HLg.o.2, qB5 (P := fun (x : Rw) => x.2 = q) HL.o.2.2 rfl⟩, Ob, hZ (by rw [HM.o]; exact RI.o.snoc hR Hr.o (fun i hi => by have := HLg.o.1 i hi; omega) (Nat.le_refl _) (by omega)), HB⟩
     case measure => simp [intOf]; omega
  ·skip
   obtain rfl : j = m.length := by omega
   go_wp2_with fail
   go_ret; have h1 := Ob.o; rw [Nat.sub_self] at h1; have h2 := RI.o; rw [List.take_of_length_le (Nat.le_refl _)] at h2; exact ⟨R, l, rfl, ⟨by simpa [rwZ] using h1, h2, fun i hi => by have := HL.o.2.1 i hi; omega⟩, HL.o.1, HgR.o, fun i hi => by have := HL.o.2.1 i hi; have := HgR.o; omega, HL.o.2.2, HB.o⟩
open Go.RowKit
theorem qAR {α : Type} {P : α -> Prop} {l : List α} {j : Nat} (hj : j < l.length) (h : ∀ x ∈ l.take j, P x) (h2 : P l[j]) : ∀ x ∈ l.take (j + 1), P x := by
 intro x hx; rw [List.take_succ_eq_append_getElem hj] at hx; rcases List.mem_append.1 hx with h3 | h3
 ·exact h x h3
 ·rw [List.mem_singleton.1 h3]; exact h2
theorem qEA (v : Value) (m : List (List Int)) (w : World) (h : qAA w v m) :
 Calls Try.prog 30 #[v] w fun e w' => e = .returned (.int .i64 (qAt m)) /\ Below w.heap.size w w' := by
 have H := hZ h; obtain ⟨av, cv, rfl, q1, q2⟩ := h.form; clear h; by_cases hr : 64 < m.length
 ·have r1 : (64 : Int) < (m.length : Int) := by omega
  have HZ := hZ (qEB hr)
  go_enter Try.func30, Try.ntmps30
  go_wp2_with fail
  go_ret; exact ⟨by rw [HZ.o]; rfl, Below.refl _ _⟩
 ·have r1 : ¬ (64 : Int) < (m.length : Int) := by omega
  go_enter Try.func30, Try.ntmps30
  go_wp2_with fail
  go_loopw [16] (fun i wr => ∃ j : Nat, j <= m.length /\ i = .int .i64 j /\ Hid (∀ r ∈ m.take j, r.length <= 128) /\ Hid (Below w.heap.size w wr)) (fun i _ => m.length - (intOf i).toNat)
  case atStart => exact ⟨0, by omega, rfl, hZ (by simp), hZ (Below.refl _ _)⟩
  case round =>
   obtain ⟨j, hj, rfl, HT, HB⟩ := hrel; by_cases hlt : j < m.length
   ·obtain ⟨b, cap, a, c, hv, hb, n1, HI, g1, g2⟩ := (H.o.below HB.o).at_ j hlt
    injection hv with f1 f2 f3; subst f1; clear f2 f3; have i1 : (0 : Int) <= (j : Int) := by omega
    have i2 : (j : Int) < (m.length : Int) := by omega
    have HI := hZ HI; have HM : Hid (m[j] ∈ m) := hZ (List.getElem_mem hlt); have HS := hZ (fun h2 => qAR (P := fun r => r.length <= 128) hlt HT.o h2); clear HT; generalize m[j] = r at *; by_cases hx : 128 < r.length
    ·have s1 : (128 : Int) < (r.length : Int) := by omega
     have HZ := hZ (qEC (by omega) HM.o hx)
     go_wp2_with fail
     go_ret; exact ⟨by rw [HZ.o]; rfl, HB.o⟩
    ·have s1 : ¬ (128 : Int) < (r.length : Int) := by omega
     go_wp2_with fail
     go_roundw
     case rel => exact ⟨j + 1, by omega, by go_num, hZ (HS.o (by omega)), HB⟩
     case measure => simp [intOf]; omega
   ·have hC : ∀ r ∈ m, r.length <= 128 := by have := HT.o; rwa [List.take_of_length_le (by omega)] at this
    have HC := hZ hC; clear hC HT
    go_wp2_with fail
    go_loopw [26] (fun i wr => ∃ j : Nat, j <= m.length /\ i = .int .i64 j /\ Hid (∀ r ∈ m.take j, r.length = (m[0]?.getD []).length) /\ Hid (Below w.heap.size w wr)) (fun i _ => m.length - (intOf i).toNat)
    case atStart => exact ⟨0, by omega, rfl, hZ (by simp), HB⟩
    case round =>
     clear HB hj hlt; obtain ⟨j, hj, rfl, HT, HB⟩ := hrel; by_cases hlt : j < m.length
     ·obtain ⟨b, cap, a, c, hv, hb, n1, HI, g1, g2⟩ := (H.o.below HB.o).at_ j hlt
      have h0 : 0 < m.length := by omega
      obtain ⟨b0, cap0, a0, c0, hv0, hb0, n0, HI0, g10, g20⟩ := (H.o.below HB.o).at_ 0 h0; injection hv with f1 f2 f3; subst f1; clear f2 f3; injection hv0 with f1 f2 f3; injection f1 with f1; injection f1 with f1; subst f1; clear f2 f3; have i1 : (0 : Int) <= (j : Int) := by omega
      have i2 : (j : Int) < (m.length : Int) := by omega
      have i3 : (0 : Int) < (m.length : Int) := by omega
      clear HI HI0; have HM : Hid (m[j] ∈ m) := hZ (List.getElem_mem hlt); have HS := hZ (fun h2 => qAR (P := fun r => r.length = (m[0]?.getD []).length) hlt HT.o h2); have HE : Hid ((m[0]?.getD []).length = m[0].length) := hZ (by simp [List.getElem?_eq_getElem h0]); have HZ := hZ (fun h3 => qEZ (by omega) HC.o h0 HM.o h3); clear HT; generalize m[j] = r at *; generalize m[0] = r0 at *; by_cases hx : r.length = r0.length
      ·have s1 : ((r.length : Int) == (r0.length : Int)) = true := by simp [hx]
       have s2 : ((r.length : Int) != (r0.length : Int)) = false := by simp [hx]
       have s3 : (r.length == r0.length) = true := by simp [hx]
       have s4 : (r.length != r0.length) = false := by simp [hx]
       have HX := hZ hx; clear hx
       go_wp2_with fail
       go_roundw
       case rel => exact ⟨j + 1, by omega, by go_num, hZ (HS.o (by rw [HE.o]; exact HX.o)), HB⟩
       case measure => simp [intOf]; omega
      ·have s1 : ((r.length : Int) == (r0.length : Int)) = false := by simp; omega
       have s2 : ((r.length : Int) != (r0.length : Int)) = true := by simp; omega
       have s3 : (r.length == r0.length) = false := by simp; omega
       have s4 : (r.length != r0.length) = true := by simp; omega
       have HX := hZ (HZ.o hx); clear hx
       go_wp2_with fail
       go_ret; exact ⟨by rw [HX.o]; rfl, HB.o⟩
     ·have hE : ∀ r ∈ m, r.length = (m[0]?.getD []).length := by have := HT.o; rwa [List.take_of_length_le (by omega)] at this
      have HE := hZ hE; clear hE HT
      go_wp2_with fail
      go_loopw [40] (fun i wr => ∃ j : Nat, j <= m.length /\ i = .int .i64 j /\ Hid (∀ r ∈ m.take j, ∀ x ∈ r, -1099511627776 <= x /\ x <= 1099511627776) /\ Hid (Below w.heap.size w wr)) (fun i _ => m.length - (intOf i).toNat)
      case atStart => exact ⟨0, by omega, rfl, hZ (by simp), HB⟩
      case round =>
       clear HB hj hlt; obtain ⟨j, hj, rfl, HT, HB⟩ := hrel; by_cases hlt : j < m.length
       ·obtain ⟨b, cap, a, c, hv, hb, n1, HI, g1, g2⟩ := (H.o.below HB.o).at_ j hlt
        injection hv with f1 f2 f3; subst f1; clear f2 f3; have i1 : (0 : Int) <= (j : Int) := by omega
        have i2 : (j : Int) < (m.length : Int) := by omega
        have h0 : 0 < m.length := by omega
        have HI := hZ HI; have HM : Hid (m[j] ∈ m) := hZ (List.getElem_mem hlt); have HS := hZ (fun h2 => qAR (P := fun r => ∀ x ∈ r, -1099511627776 <= x /\ x <= 1099511627776) hlt HT.o h2); have HZ : Hid (∀ x ∈ m[j], (x < -1099511627776 \/ 1099511627776 < x) -> qAt m = 5) := hZ (fun x hx h4 => qE0 (by omega) HC.o h0 (fun r hr => by rw [HE.o r hr]; simp [List.getElem?_eq_getElem h0]) HM.o hx h4); clear HT; generalize m[j] = r at *
        go_wp2_with fail
        go_loopw [46] (fun i w2 => ∃ k : Nat, k <= r.length /\ i = .int .i64 k /\ Hid (∀ x ∈ r.take k, -1099511627776 <= x /\ x <= 1099511627776) /\ Hid (Below wr.heap.size wr w2)) (fun i _ => r.length - (intOf i).toNat)
        case atStart => exact ⟨0, by omega, rfl, hZ (by simp), hZ (Below.refl _ _)⟩
        case round =>
         obtain ⟨k, hk, rfl, HT, HB2⟩ := hrel; by_cases hk2 : k < r.length
         ·obtain ⟨d, e1, hv1, hb1, m1⟩ := qAo.at_ (HI.o.below HB2.o) k hk2
          injection hv1 with f1 f2 f3; subst f1; clear f2 f3; have k1 : (0 : Int) <= (k : Int) := by omega
          have k2 : (k : Int) < (r.length : Int) := by omega
          have HT2 := hZ (fun h2 => qAR (P := fun x : Int => -1099511627776 <= x /\ x <= 1099511627776) hk2 HT.o h2); have HZ2 := hZ (HZ.o r[k] (List.getElem_mem hk2)); have HB3 := hZ (HB.o.trans (HB2.o.mono HB.o.size)); generalize r[k] = x at *; by_cases hx : x < -1099511627776
          ·have HX := hZ (HZ2.o (Or.inl hx))
           go_wp2_with fail
           go_ret; exact ⟨by rw [HX.o]; rfl, HB3.o⟩
          ·by_cases hx2 : 1099511627776 < x
           ·have HX := hZ (HZ2.o (Or.inr hx2))
            go_wp2_with fail
            go_ret; exact ⟨by rw [HX.o]; rfl, HB3.o⟩
           ·go_wp2_with fail
            go_roundw
            case rel => exact ⟨k + 1, by omega, by go_num, hZ (HT2.o ⟨by omega, by omega⟩), HB2⟩
            case measure => simp [intOf]; omega
         ·have HB3 := hZ (HB.o.trans (HB2.o.mono HB.o.size))
          have HS2 := hZ (HS.o (by have := HT.o; rwa [List.take_of_length_le (by omega)] at this))
          go_wp2_with fail
          go_roundw
          case rel => exact ⟨j + 1, by omega, by go_num, HS2, HB3⟩
          case measure => simp [intOf]; omega
       ·have HX := hZ (qBt.2 ⟨by omega, HC.o, HE.o, by have := HT.o; rwa [List.take_of_length_le (by omega)] at this⟩)
        go_wp2_with fail
        go_ret; exact ⟨by rw [HX.o]; rfl, HB.o⟩
end Go.Proofs.Ytlmbebbdamgfpaa
