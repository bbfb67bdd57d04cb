/- lattice.In. -/
import Derived.Test.YtlmbebbdamgfpaaQHLIsN
import Derived.Test.YtlmbebbdamgfpaaQHLChk
set_option linter.unusedVariables false
set_option linter.unusedSimpArgs false
set_option maxHeartbeats 8000000
set_option maxRecDepth 100000
namespace Go.Proofs.Ytlmbebbdamgfpaa
open Go.RowKit
theorem qAo.blw {w w' : World} {v : Value} {l : List Int} (h : qAo w v l) (hb : Below w.heap.size w w') : qAo w' v l := h.below hb
instance {w w' : World} {v : Value} {l : List Int} : Mv w w' (qAo w v l) (qAo w' v l) := ⟨fun hb h => qAo.blw h hb⟩
theorem qJW {w : World} {bp n c g o1 o2 : Nat} {l : List Int} {s : Bool} {a : Option Addr} {n' c' : Nat} (h : qAo w (.slice (some ⟨bp, 0, none⟩) n c) l) (hne : bp ≠ g) : qAo (st2 w g o1 o2 s a n' c') (.slice (some ⟨bp, 0, none⟩) n c) l := by
 obtain ⟨a1, cap, hv, h1, h2, hc⟩ := h; injection hv with e1 e2 e3; subst e1 e2 e3; refine ⟨_, c, rfl, h1, h2, fun h0 => ?_⟩; obtain ⟨b', hb, hlt, hcc⟩ := hc h0; injection hb with hb; injection hb with hb; subst hb; refine ⟨bp, rfl, by rw [qFb]; exact hlt, fun j hj => ?_⟩; obtain ⟨cs, k1, k2, k3⟩ := hcc j hj; refine ⟨cs, k1, k2, fun i hi => ?_⟩; have ho : qAc (fun b => b = g) w (st2 w g o1 o2 s a n' c') := (qAc.refl _ _).off' (.inl rfl); exact (ho.cell (p := ⟨bp, j * 1 + i, none⟩) hne hlt).trans (k3 i hi)
def qMh (w0 : World) (b : List (List Int)) (v : List Int) (e : Ending) (w' : World) : Prop :=
 Below w0.heap.size w0 w' /\ ∃ t : Bool, e = .returned (.bool t) /\ (t = true ↔ InB b v)
theorem qKW {w : World} {a : Option Addr} {n c g : Nat} {r : List Int} {t : TypeId} (h : qAo w (.slice a n c) r) (hg : One w g t (.slice a n c)) : qAA w (.slice (some ⟨g, 0, none⟩) 1 1) [r] := by
 refine ⟨_, 1, rfl, by simp, by omega, fun _ => ⟨g, rfl, hg.lt, fun j hj => ?_⟩⟩; simp only [List.length_singleton] at hj; obtain rfl : j = 0 := by omega
 refine ⟨_, ⟨_, rfl, h⟩, rfl, fun i hi => ?_⟩; obtain rfl : i = 0 := by omega
 exact hg.cell
theorem qKj {x : Int} (h1 : -9223372036854775808 <= x) (h2 : x <= 9223372036854775807) : Sz 64 x := by
 unfold Sz; have : (2 : Nat) ^ 64 = 18446744073709551616 := by decide
 omega
structure qFD (q : Int) (n p k : Nat) (row rest rest' : List Int) : Prop where
 len : rest'.length = n
 done : ∀ t, t < k -> vec rest' t = vec rest t - q * vec row t
 left : ∀ t, k <= t -> vec rest' t = vec rest t
theorem qFD.start {q : Int} {n p : Nat} {row rest : List Int} (hl : rest.length = n) (h0 : ∀ c, c < p -> vec row c = 0) : qFD q n p p row rest rest :=
 ⟨hl, fun t ht => by rw [h0 t ht, Int.mul_zero, Int.sub_zero], fun _ _ => rfl⟩
theorem qFD.step {q : Int} {n p k : Nat} {row rest rest' : List Int} (h : qFD q n p k row rest rest') (hk : k < n) {z : Int} (hz : z = vec rest' k - q * vec row k) : qFD q n p (k + 1) row rest (rest'.set k z) := by
 have hl := h.len; have e : ∀ t, vec (rest'.set k z) t = if t = k then z else vec rest' t := fun t => qBS (by omega) z t; refine ⟨by rw [List.length_set]; exact hl, fun t ht => ?_, fun t ht => by rw [e, if_neg (by omega)]; exact h.left t (by omega)⟩; rw [e]; by_cases h1 : t = k
 ·subst h1; rw [if_pos rfl, hz, h.left t (Nat.le_refl _)]
 ·rw [if_neg h1]; exact h.done t (by omega)
theorem qFD.all {q : Int} {n p : Nat} {row rest rest' : List Int} (h : qFD q n p n row rest rest') (hr : rest.length = n) (hrow : row.length = n) (t : Nat) : vec rest' t = vec rest t - q * vec row t := by
 rcases Nat.lt_or_ge t n with h1 | h1
 ·exact h.done t h1
 ·rw [qAr (by rw [h.len]; exact h1), qAr (by omega), qAr (by omega)]; simp
theorem qKn (w0 : World) (vb vv : Value) (b : List (List Int)) (v : List Int) (h : qAA w0 vb b) (hv : qAo w0 vv v) (fb : ∀ r ∈ b, ∀ x ∈ r, -9223372036854775808 <= x /\ x <= 9223372036854775807) (fv : ∀ x ∈ v, -9223372036854775808 <= x /\ x <= 9223372036854775807) : Calls Try.prog 21 #[vb, vv] w0 (qMh w0 b v) := by
 have H := hZ h; have HV := hZ hv; have HB := hZ (Below.refl w0.heap.size w0); have HFb := hZ fb; have HFv := hZ fv; obtain ⟨av, cv, rfl, q1, q2⟩ := h.form; obtain ⟨ai, ci, rfl, q3, q4⟩ := hv.form; clear h hv fb fv; by_cases hb : 64 < b.length
 ·have s1 : (64 : Int) < (b.length : Int) := by omega
  go_enter Try.func21, Try.ntmps21
  go_wp2_with fail
  go_ret; exact ⟨HB.o, false, rfl, by simp [InB]; omega⟩
 have s1 : ¬ (64 : Int) < (b.length : Int) := by omega
 by_cases hc : 128 < v.length
 ·have s2 : (128 : Int) < (v.length : Int) := by omega
  go_enter Try.func21, Try.ntmps21
  go_wp2_with fail
  go_ret; exact ⟨HB.o, false, rfl, by simp [InB]; omega⟩
 have s2 : ¬ (128 : Int) < (v.length : Int) := by omega
 obtain ⟨n, hn⟩ := eX v.length; have HN := hZ hn; rw [hn] at HV q3 hc s2 ⊢; clear hn
 go_enter Try.func21, Try.ntmps21
 go_wp2_with fail
 refine (qGf w0 _ b n H.o (by omega) (by omega)).mono ?_; rintro e w1 ⟨hB, ⟨hi, rfl⟩ | ⟨hi, vp, rfl, hp⟩⟩
 ·replace HB := bT HB hB
  have HI := hZ hi; clear hB hi
  go_wp2_with fail
  go_ret; exact ⟨HB.o, false, rfl, by simp [InB]; intro _ _ h; rw [HN.o] at h; exact absurd h HI.o⟩
 replace HB := bT HB hB; have HI := hZ hi; have HP := hZ hp; obtain ⟨ap, cp, hvp, q5, q6⟩ := hp.form; rw [List.length_map] at hvp q5; subst hvp; clear hB hi hp; obtain ⟨w2, hw⟩ := eX (w1.alloc (.cells #[.slice ai n ci] 22)); have hB := aB hw; obtain ⟨g1, hg1⟩ := eX w1.heap.size; have On' : Hid (One w2 g1 22 (.slice ai n ci)) := hZ (by rw [<- hw, <- hg1]; exact One.new _ _ _); replace HP := hZ (HP.o.below hB); replace HB := bT HB hB; clear hB
 go_wp2_with fail
 clear hw hg1; have HM1 : Hid (qAA w2 (.slice (some ⟨g1, 0, none⟩) 1 1) [v]) := hZ (qKW (HV.o.below HB.o) On'.o); clear On'; refine (qC1 _ [v] n w2 HM1.o (by simp) (fun r hr => by rw [List.mem_singleton.1 hr]; exact HN.o) (by omega) (fun r hr x hx => by rw [List.mem_singleton.1 hr] at hx; exact HFv.o x hx)).mono ?_; rintro e w3 ⟨R1, l1, rfl, h1, h2, h3, h4, h5, hB⟩; simp only [List.length_singleton] at h2; obtain ⟨g, c1, rfl⟩ : ∃ g c, l1 = [(g, c)] := by
  match l1, h2 with
  | [(g, c)], _ => exact ⟨g, c, rfl⟩
 have hrr := h1.rows.row 0 (by simp); have hcc := h1.rows.cap 0 (by simp); have h40 := h4 0 (by simp); simp only [List.getElem_cons_zero] at hrr hcc h40; have Rr := hZ hrr.1; have HGg : Hid (w2.heap.size <= g) := hZ h40; have e0 := h1.get 0 (by simp); simp only [List.getElem_cons_zero] at e0; obtain ⟨hcc1, hcc2⟩ := hcc; have Hs3 := hZ HB.o.size; have HPG : Hid (∀ bq, ap = some ⟨bq, 0, none⟩ -> 0 < b.length -> bq < g) := hZ (fun bq e h0 => by
  obtain ⟨b', cap', hv', hb', -⟩ := HP.o.at_ 0 (by simpa using h0); rw [e] at hv'; injection hv' with e1 e2 e3; injection e1 with e1; injection e1 with e1; subst e1; exact Nat.lt_of_lt_of_le hb' HGg.o)
 replace HP := hZ (HP.o.below hB); replace HB := bT HB hB; have HG0 : Hid (w0.heap.size <= g) := hZ (Nat.le_trans Hs3.o HGg.o); clear h1 h2 h3 h4 h5 hrr h40 hB HM1 HGg Hs3
 go_wp2_with fail
 clear e0; refine (qC1 _ b n w3 (H.o.below HB.o) (by omega) (fun r hr => by obtain ⟨i, hi, rfl⟩ := List.mem_iff_getElem.1 hr; exact (HI.o.row i hi).1) (by omega) HFb.o).mono ?_; rintro e w4 ⟨R, l, rfl, h1, h2, h3, h4, h5, hB⟩; have RS := hZ h1; have Hl := hZ h2; have HGR : Hid (g < R /\ ∀ i (h : i < l.length), g < l[i].1) := hZ ⟨Nat.lt_of_lt_of_le Rr.o.lt h3, fun i hi => Nat.lt_of_lt_of_le Rr.o.lt (h4 i hi)⟩; have HCap : Hid (∀ i (h : i < l.length), l[i].2 = n) := hZ h5; replace HP := hZ (HP.o.below hB); replace Rr := Rr.b hB; replace HB := bT HB hB; clear hB; clear h1 h2 h3 h4 h5
 go_wp2_with fail
 have HRt := hZ (qCj.start (b := b) HN.o); have SV : Hid (∀ x ∈ v, Sz (66 * 0 + 64) x) := hZ (fun x hx => by have := HFv.o x hx; exact qKj this.1 this.2); have HPV : Hid (qAo w4 (.slice ap b.length cp) (b.map (fun r => (pv r : Int)))) := HP; have HBP : Hid (Below w4.heap.size w4 w4) := hZ (Below.refl _ _)
 go_loopw [43] (fun i wr => ∃ (t : Nat) (rest : List Int), t <= b.length /\ i = .int .i64 t /\ Hid (qCj b n v t rest) /\ Hid (∀ x ∈ rest, Sz (66 * t + 64) x) /\ Hid (qAF wr g rest) /\ Hid (qCd wr R l n b) /\ Hid (qAo wr (.slice ap b.length cp) (b.map (fun r => (pv r : Int)))) /\ Hid (Below w0.heap.size w0 wr)) (fun i _ => b.length - (intOf i).toNat)
 case atStart => exact ⟨0, v, by omega, rfl, HRt, SV, Rr, RS, HPV, HB⟩
 case round =>
  clear HRt SV Rr RS HPV HP HB HBP; obtain ⟨t, rest, ht, rfl, HRt, SV, Rr, RS, HP, HB⟩ := hrel; obtain ⟨w4, rfl⟩ := eY wr; by_cases htl : t < b.length
  ·skip
   have i1 : (0 : Int) <= (t : Int) := by omega
   have i2 : (t : Int) < (b.length : Int) := by omega
   have htl2 : t < l.length := by rw [Hl.o]; exact htl
   obtain ⟨row, hrow⟩ := eX (b[t]); have HRow := hZ hrow; obtain ⟨k1, k2, k3⟩ := HI.o.row t htl; rw [hrow] at k1 k2 k3; have Hrl := hZ k1; have Srow : Hid (∀ x ∈ row, Sz 64 x) := hZ (fun x hx => by have := HFb.o row (hrow ▸ List.getElem_mem _) x hx; exact qKj this.1 this.2); have Hlow : Hid (∀ c, c < pv row -> vec row c = 0) := hZ (fun c hc => qIQ hc); obtain ⟨bp, capp, hvp, hbp, n2⟩ := HP.o.at_ t (by simpa using htl); rw [List.length_map] at hvp; injection hvp with f1 f2 f3; subst f1; clear f2 f3; rw [List.getElem_map, hrow] at n2; have HBp : Hid (bp < g) := hZ (HPG.o bp rfl (by omega)); have HSt := hZ (fun rest' => HRt.o.step (rest' := rest') HI.o htl); have HFl := hZ (HRt.o.fails HI.o htl); rw [hrow] at HSt HFl; have Hlen := hZ HRt.o.len; obtain ⟨p, hp⟩ := eX (pv row); rw [hp] at n2 k2 k3 HSt HFl Hlow; clear hrow hp k1; have j1 : (0 : Int) <= (p : Int) := by omega
   have j2 : (p : Int) < (n : Int) := by omega
   have Hpr : Hid (p < rest.length) := hZ (by rw [Hlen.o]; exact k2); have Hprow : Hid (p < row.length) := hZ (by rw [Hrl.o]; exact k2); obtain ⟨x, hx⟩ := eX (rest[p]'Hpr.o); obtain ⟨y, hy⟩ := eX (row[p]'Hprow.o); have Hx := hZ hx; have Hy := hZ hy; have Sx : Hid (Sz (66 * t + 64) x) := hZ (hx ▸ SV.o _ (List.getElem_mem _)); have Sy : Hid (Sz 64 y) := hZ (hy ▸ Srow.o _ (List.getElem_mem _)); rw [qAk Hprow.o, hy] at k3; obtain ⟨gr, hgr⟩ := eX (l[t].1); have Hgr := hZ hgr; have Hcr := hZ (HCap.o t htl2); clear hx hy hgr; have HVp : Hid (vec rest p = x /\ vec row p = y) := hZ ⟨by rw [qAk Hpr.o, Hx.o], by rw [qAk Hprow.o, Hy.o]⟩; rw [HVp.o.1, HVp.o.2] at HFl; have ht64 : 66 * t + 64 <= 4300 := by omega
   have RP : Hid (∀ w, qCd w R l n b -> qAF w gr row) := hZ (fun w h => by have := (h.rows.row t htl2).1; rw [Hgr.o, HRow.o] at this; exact this)
   go_wp2_with fail
   clear n2; refine qCa (fun t ds a w' => ∃ v49 v50 v51 v52 v53 v54 v55 v56 v57 v58 v59 v60 v48 v61 v62 v63 b11 b12, a = ⟨(((((((((((((((((((t).setIfInBounds 11 (.pointer (some ⟨b11, 0, none⟩))).setIfInBounds 12 (.pointer (some ⟨b12, 0, none⟩))).setIfInBounds 13 (.int .i64 0)).setIfInBounds 49 v49).setIfInBounds 50 v50).setIfInBounds 51 v51).setIfInBounds 52 v52).setIfInBounds 53 v53).setIfInBounds 54 v54).setIfInBounds 55 v55).setIfInBounds 56 v56).setIfInBounds 57 v57).setIfInBounds 58 v58).setIfInBounds 59 v59).setIfInBounds 60 v60).setIfInBounds 48 v48).setIfInBounds 61 v61).setIfInBounds 62 v62).setIfInBounds 63 v63, ds⟩ /\ Hid (Bx w' b11 (x / y)) /\ Hid (Bx w' b12 (x % y)) /\ Hid (Below w4.heap.size w4 w') /\ Hid (b11 ≠ b12 /\ w4.heap.size <= b11 /\ w4.heap.size <= b12)) ?_ ?_
   ·skip
    have HJ := hZ (Below.refl w4.heap.size w4); obtain ⟨w5, hwd⟩ := eX w4.drew; have hB := dB hwd; replace Rr := Rr.b hB; replace RS := RS.b hB; replace HP := HP.b hB; replace HJ := bT HJ hB; clear hB; have HBr : Hid (qAc (fun b => w5.heap.size <= b) w5 w5) := hZ (qAc.refl _ _); refine qAx [19] (fun w' => qAc (fun b => w5.heap.size <= b) w5 w') (by kernel_rfl) (by rw [hwd]; exact qAc.refl _ _) (fun hHeld => ?_); rw [hwd] at hHeld ⊢; clear hwd; have e0 := RS.o.get t htl2; rw [Hgr.o, Hcr.o] at e0; have Rp := hZ (RP.o _ RS.o); obtain ⟨s_x, a_x, n_x, c_x, d0x, d1x, h_x⟩ := Rr.o.get p Hpr.o; rw [Hx.o] at h_x; have Vx := hZ h_x; clear h_x; obtain ⟨s_y, a_y, n_y, c_y, d0y, d1y, h_y⟩ := Rp.o.get p Hprow.o; rw [Hy.o] at h_y; have Vy := hZ h_y; clear h_y; refine pU 0 49 ?_; refine pU 1 50 ?_; refine pU 2 51 ?_; refine tV 3 52 (cT (Nat.not_le_of_lt Rr.o.lt) d0x Rr.o.lt) (cT (Nat.not_le_of_lt Rr.o.lt) d1x Rr.o.lt) ?_; refine pU 4 53 ?_; refine pU 5 54 ?_; refine pU 6 55 ?_; refine tU 7 56 (cT (Nat.not_le_of_lt RS.o.lt) e0 RS.o.lt) ?_; refine pU 8 57 ?_; refine pU 9 58 ?_; refine tV 10 59 (cT (Nat.not_le_of_lt Rp.o.lt) d0y Rp.o.lt) (cT (Nat.not_le_of_lt Rp.o.lt) d1y Rp.o.lt) ?_; clear e0 d0x d1x d0y d1y Rp RS Rr HP; have HJs : Hid (w4.heap.size <= w5.heap.size) := hZ HJ.o.size; refine qIr [11, 16, 17] (by kernel_rfl) (by simp) ⟨qA7 11 rfl (fun K hK => ?_), qA7 16 rfl (fun K hK => ?_), qA7 17 rfl (fun K hK => ?_), trivial⟩
    ·skip
     go_simp; refine (qHh (w := w5) Vx.o Vy.o Sx.o Sy.o (by omega) (by omega) (by omega)).mono ?_; rintro e w6 ⟨s_q, a_q, n_q, c_q, s_r, a_r, n_r, c_r, rfl, h_q, h_r, hB⟩; have Vq := hZ h_q; have Vr := hZ h_r; replace HBr := oT HBr hB; replace Vx := Vx.b hB; replace Vy := Vy.b hB; replace HJ := bT HJ hB; clear hB; clear h_q h_r; refine hK.out _ _ HBr.o (fun hHeld => ?_); clear hK K
     try simp only [Act.put, sX1, sX2, sX3]
     refine pU 12 48 ?_; refine pU 13 61 ?_; refine pU 14 62 ?_; refine pU 15 63 ?_; refine qIr [16, 17] (by kernel_rfl) (by simp) ⟨qA7 16 rfl (fun K hK => ?_), qA7 17 rfl (fun K hK => ?_), trivial⟩
     ·skip
      go_simp; obtain ⟨w7, hw⟩ := eX (w6.alloc (.cells #[.bool false, .slice none 0 0] 58)); have hB := aB hw; obtain ⟨b11, hb⟩ := eX w6.heap.size; have Fq' : Hid (Bx w7 b11 0) := hZ (by rw [<- hw, <- hb]; exact Bx.new (qAv _)); have hge_b11 : w5.heap.size <= b11 := by rw [<- hb]; exact HBr.o.size
      replace HBr := oT HBr hB; replace Vx := Vx.b hB; replace Vy := Vy.b hB; replace Vq := Vq.b hB; replace Vr := Vr.b hB; replace HJ := bT HJ hB; clear hB; have Fq := Fq'; clear Fq'; rw [hw]
      try rw [hb]
      clear hw hb; refine hK.out _ _ HBr.o (fun hHeld => ?_); clear hK K
      try simp only [Act.put, sX1, sX2, sX3]
      refine eU 17 fun K hK => ?_; go_simp; obtain ⟨w8, hw⟩ := eX (w7.alloc (.cells #[.bool false, .slice none 0 0] 58)); have hB := aB hw; obtain ⟨b12, hb⟩ := eX w7.heap.size; have Fr' : Hid (Bx w8 b12 0) := hZ (by rw [<- hw, <- hb]; exact Bx.new (qAv _)); have hge_b12 : w5.heap.size <= b12 := by rw [<- hb]; exact HBr.o.size
      have hne_b11_b12 : b11 < b12 := by rw [<- hb]; exact Fq.o.lt
      replace HBr := oT HBr hB; replace Vx := Vx.b hB; replace Vy := Vy.b hB; replace Vq := Vq.b hB; replace Vr := Vr.b hB; replace Fq := Fq.b hB; replace HJ := bT HJ hB; clear hB; have Fr := Fr'; clear Fr'; rw [hw]
      try rw [hb]
      clear hw hb; refine hK.out _ _ HBr.o (fun hHeld => ?_); clear hK K
      try simp only [Act.put, sX1, sX2, sX3]
      obtain ⟨s_9, a_9, n_9, c_9, t_9, -⟩ := Fq.o; have e0 := t_9.cell0; have e1 := t_9.cell1; have e2 := t_9.frozen 0; have e3 := t_9.frozen 1; clear t_9; have hn9 : qAg w8 (b11) := Fq.o.noInt; obtain ⟨w9, hw⟩ := eX ((w8.setCell ⟨b11, 0, none⟩ (.bool s_q)).setCell ⟨b11, 1, none⟩ (.slice a_q n_q c_q)); have hw2 : st2 w8 (b11) (0) (1) s_q a_q n_q c_q = w9 := hw; replace Fq := hZ (Bx.put Fq.o Vq.o); rw [hw2] at Fq; replace Vx := hZ (Vx.o.offe hw2 hn9); replace Vy := hZ (Vy.o.offe hw2 hn9); replace Vq := hZ (Vq.o.offe hw2 hn9); replace Vr := hZ (Vr.o.offe hw2 hn9); replace Fr := hZ (Fr.o.offe hw2 hn9 (by omega)); replace HJ := hZ (bO hw2 HJ.o (by have := HJs.o; omega)); clear hw2 hn9; replace HBr := hZ (HBr.o.offs hw hge_b11); refine eU 18 fun K hK => ?_; go_simp
      try rw [hw]
      refine hK.out _ _ HBr.o (fun hHeld => ?_); clear hK K
      try simp only [Act.put, sX1, sX2, sX3]
      clear hw e0 e1 e2 e3; obtain ⟨s_9, a_9, n_9, c_9, t_9, -⟩ := Fr.o; have e0 := t_9.cell0; have e1 := t_9.cell1; have e2 := t_9.frozen 0; have e3 := t_9.frozen 1; clear t_9; have hn9 : qAg w9 (b12) := Fr.o.noInt; obtain ⟨w10, hw⟩ := eX ((w9.setCell ⟨b12, 0, none⟩ (.bool s_r)).setCell ⟨b12, 1, none⟩ (.slice a_r n_r c_r)); have hw2 : st2 w9 (b12) (0) (1) s_r a_r n_r c_r = w10 := hw; replace Fr := hZ (Bx.put Fr.o Vr.o); rw [hw2] at Fr; replace Vx := hZ (Vx.o.offe hw2 hn9); replace Vy := hZ (Vy.o.offe hw2 hn9); replace Vq := hZ (Vq.o.offe hw2 hn9); replace Vr := hZ (Vr.o.offe hw2 hn9); replace Fq := hZ (Fq.o.offe hw2 hn9 (by omega)); replace HJ := hZ (bO hw2 HJ.o (by have := HJs.o; omega)); clear hw2 hn9; refine lU 19 fun K hK => ?_; go_simp
      try rw [hw]
      refine hK.out _ _ ?_; clear hK K
      try simp only [Act.put, sX1, sX2, sX3]
      clear hw e0 e1 e2 e3; refine pU 20 13 ?_; refine dU ?_; clear hHeld; refine qAp ⟨_, _, _, _, _, _, _, _, _, _, _, _, _, _, _, _, _, _, by first | rfl | (simp only [sX1, sX2, sX3]; rfl), Fq, Fr, HJ, hZ (by have := HJs.o; omega)⟩
     ·skip
      go_simp; obtain ⟨w7, hw⟩ := eX (w6.alloc (.cells #[.bool false, .slice none 0 0] 58)); have hB := aB hw; obtain ⟨b12, hb⟩ := eX w6.heap.size; have Fr' : Hid (Bx w7 b12 0) := hZ (by rw [<- hw, <- hb]; exact Bx.new (qAv _)); have hge_b12 : w5.heap.size <= b12 := by rw [<- hb]; exact HBr.o.size
      replace HBr := oT HBr hB; replace Vx := Vx.b hB; replace Vy := Vy.b hB; replace Vq := Vq.b hB; replace Vr := Vr.b hB; replace HJ := bT HJ hB; clear hB; have Fr := Fr'; clear Fr'; rw [hw]
      try rw [hb]
      clear hw hb; refine hK.out _ _ HBr.o (fun hHeld => ?_); clear hK K
      try simp only [Act.put, sX1, sX2, sX3]
      refine eU 16 fun K hK => ?_; go_simp; obtain ⟨w8, hw⟩ := eX (w7.alloc (.cells #[.bool false, .slice none 0 0] 58)); have hB := aB hw; obtain ⟨b11, hb⟩ := eX w7.heap.size; have Fq' : Hid (Bx w8 b11 0) := hZ (by rw [<- hw, <- hb]; exact Bx.new (qAv _)); have hge_b11 : w5.heap.size <= b11 := by rw [<- hb]; exact HBr.o.size
      have hne_b12_b11 : b12 < b11 := by rw [<- hb]; exact Fr.o.lt
      replace HBr := oT HBr hB; replace Vx := Vx.b hB; replace Vy := Vy.b hB; replace Vq := Vq.b hB; replace Vr := Vr.b hB; replace Fr := Fr.b hB; replace HJ := bT HJ hB; clear hB; have Fq := Fq'; clear Fq'; rw [hw]
      try rw [hb]
      clear hw hb; refine hK.out _ _ HBr.o (fun hHeld => ?_); clear hK K
      try simp only [Act.put, sX1, sX2, sX3]
      obtain ⟨s_9, a_9, n_9, c_9, t_9, -⟩ := Fq.o; have e0 := t_9.cell0; have e1 := t_9.cell1; have e2 := t_9.frozen 0; have e3 := t_9.frozen 1; clear t_9; have hn9 : qAg w8 (b11) := Fq.o.noInt; obtain ⟨w9, hw⟩ := eX ((w8.setCell ⟨b11, 0, none⟩ (.bool s_q)).setCell ⟨b11, 1, none⟩ (.slice a_q n_q c_q)); have hw2 : st2 w8 (b11) (0) (1) s_q a_q n_q c_q = w9 := hw; replace Fq := hZ (Bx.put Fq.o Vq.o); rw [hw2] at Fq; replace Vx := hZ (Vx.o.offe hw2 hn9); replace Vy := hZ (Vy.o.offe hw2 hn9); replace Vq := hZ (Vq.o.offe hw2 hn9); replace Vr := hZ (Vr.o.offe hw2 hn9); replace Fr := hZ (Fr.o.offe hw2 hn9 (by omega)); replace HJ := hZ (bO hw2 HJ.o (by have := HJs.o; omega)); clear hw2 hn9; replace HBr := hZ (HBr.o.offs hw hge_b11); refine eU 18 fun K hK => ?_; go_simp
      try rw [hw]
      refine hK.out _ _ HBr.o (fun hHeld => ?_); clear hK K
      try simp only [Act.put, sX1, sX2, sX3]
      clear hw e0 e1 e2 e3; obtain ⟨s_9, a_9, n_9, c_9, t_9, -⟩ := Fr.o; have e0 := t_9.cell0; have e1 := t_9.cell1; have e2 := t_9.frozen 0; have e3 := t_9.frozen 1; clear t_9; have hn9 : qAg w9 (b12) := Fr.o.noInt; obtain ⟨w10, hw⟩ := eX ((w9.setCell ⟨b12, 0, none⟩ (.bool s_r)).setCell ⟨b12, 1, none⟩ (.slice a_r n_r c_r)); have hw2 : st2 w9 (b12) (0) (1) s_r a_r n_r c_r = w10 := hw; replace Fr := hZ (Bx.put Fr.o Vr.o); rw [hw2] at Fr; replace Vx := hZ (Vx.o.offe hw2 hn9); replace Vy := hZ (Vy.o.offe hw2 hn9); replace Vq := hZ (Vq.o.offe hw2 hn9); replace Vr := hZ (Vr.o.offe hw2 hn9); replace Fq := hZ (Fq.o.offe hw2 hn9 (by omega)); replace HJ := hZ (bO hw2 HJ.o (by have := HJs.o; omega)); clear hw2 hn9; refine lU 19 fun K hK => ?_; go_simp
      try rw [hw]
      refine hK.out _ _ ?_; clear hK K
      try simp only [Act.put, sX1, sX2, sX3]
      clear hw e0 e1 e2 e3; refine pU 20 13 ?_; refine dU ?_; clear hHeld; refine qAp ⟨_, _, _, _, _, _, _, _, _, _, _, _, _, _, _, _, _, _, by first | rfl | (simp only [sX1, sX2, sX3]; rfl), Fq, Fr, HJ, hZ (by have := HJs.o; omega)⟩
    ·skip
     go_simp; obtain ⟨w6, hw⟩ := eX (w5.alloc (.cells #[.bool false, .slice none 0 0] 58)); have hB := aB hw; obtain ⟨b11, hb⟩ := eX w5.heap.size; have Fq' : Hid (Bx w6 b11 0) := hZ (by rw [<- hw, <- hb]; exact Bx.new (qAv _)); have hge_b11 : w5.heap.size <= b11 := by rw [<- hb]; exact HBr.o.size
     replace HBr := oT HBr hB; replace Vx := Vx.b hB; replace Vy := Vy.b hB; replace HJ := bT HJ hB; clear hB; have Fq := Fq'; clear Fq'; rw [hw]
     try rw [hb]
     clear hw hb; refine hK.out _ _ HBr.o (fun hHeld => ?_); clear hK K
     try simp only [Act.put, sX1, sX2, sX3]
     refine qIr [11, 17] (by kernel_rfl) (by simp) ⟨qA7 11 rfl (fun K hK => ?_), qA7 17 rfl (fun K hK => ?_), trivial⟩
     ·skip
      go_simp; refine (qHh (w := w6) Vx.o Vy.o Sx.o Sy.o (by omega) (by omega) (by omega)).mono ?_; rintro e w7 ⟨s_q, a_q, n_q, c_q, s_r, a_r, n_r, c_r, rfl, h_q, h_r, hB⟩; have Vq := hZ h_q; have Vr := hZ h_r; replace HBr := oT HBr hB; replace Vx := Vx.b hB; replace Vy := Vy.b hB; replace Fq := Fq.b hB; replace HJ := bT HJ hB; clear hB; clear h_q h_r; refine hK.out _ _ HBr.o (fun hHeld => ?_); clear hK K
      try simp only [Act.put, sX1, sX2, sX3]
      refine pU 12 48 ?_; refine pU 13 61 ?_; refine pU 14 62 ?_; refine pU 15 63 ?_; refine eU 17 fun K hK => ?_; go_simp; obtain ⟨w8, hw⟩ := eX (w7.alloc (.cells #[.bool false, .slice none 0 0] 58)); have hB := aB hw; obtain ⟨b12, hb⟩ := eX w7.heap.size; have Fr' : Hid (Bx w8 b12 0) := hZ (by rw [<- hw, <- hb]; exact Bx.new (qAv _)); have hge_b12 : w5.heap.size <= b12 := by rw [<- hb]; exact HBr.o.size
      have hne_b11_b12 : b11 < b12 := by rw [<- hb]; exact Fq.o.lt
      replace HBr := oT HBr hB; replace Vx := Vx.b hB; replace Vy := Vy.b hB; replace Fq := Fq.b hB; replace Vq := Vq.b hB; replace Vr := Vr.b hB; replace HJ := bT HJ hB; clear hB; have Fr := Fr'; clear Fr'; rw [hw]
      try rw [hb]
      clear hw hb; refine hK.out _ _ HBr.o (fun hHeld => ?_); clear hK K
      try simp only [Act.put, sX1, sX2, sX3]
      obtain ⟨s_9, a_9, n_9, c_9, t_9, -⟩ := Fq.o; have e0 := t_9.cell0; have e1 := t_9.cell1; have e2 := t_9.frozen 0; have e3 := t_9.frozen 1; clear t_9; have hn9 : qAg w8 (b11) := Fq.o.noInt; obtain ⟨w9, hw⟩ := eX ((w8.setCell ⟨b11, 0, none⟩ (.bool s_q)).setCell ⟨b11, 1, none⟩ (.slice a_q n_q c_q)); have hw2 : st2 w8 (b11) (0) (1) s_q a_q n_q c_q = w9 := hw; replace Fq := hZ (Bx.put Fq.o Vq.o); rw [hw2] at Fq; replace Vx := hZ (Vx.o.offe hw2 hn9); replace Vy := hZ (Vy.o.offe hw2 hn9); replace Vq := hZ (Vq.o.offe hw2 hn9); replace Vr := hZ (Vr.o.offe hw2 hn9); replace Fr := hZ (Fr.o.offe hw2 hn9 (by omega)); replace HJ := hZ (bO hw2 HJ.o (by have := HJs.o; omega)); clear hw2 hn9; replace HBr := hZ (HBr.o.offs hw hge_b11); refine eU 18 fun K hK => ?_; go_simp
      try rw [hw]
      refine hK.out _ _ HBr.o (fun hHeld => ?_); clear hK K
      try simp only [Act.put, sX1, sX2, sX3]
      clear hw e0 e1 e2 e3; obtain ⟨s_9, a_9, n_9, c_9, t_9, -⟩ := Fr.o; have e0 := t_9.cell0; have e1 := t_9.cell1; have e2 := t_9.frozen 0; have e3 := t_9.frozen 1; clear t_9; have hn9 : qAg w9 (b12) := Fr.o.noInt; obtain ⟨w10, hw⟩ := eX ((w9.setCell ⟨b12, 0, none⟩ (.bool s_r)).setCell ⟨b12, 1, none⟩ (.slice a_r n_r c_r)); have hw2 : st2 w9 (b12) (0) (1) s_r a_r n_r c_r = w10 := hw; replace Fr := hZ (Bx.put Fr.o Vr.o); rw [hw2] at Fr; replace Vx := hZ (Vx.o.offe hw2 hn9); replace Vy := hZ (Vy.o.offe hw2 hn9); replace Fq := hZ (Fq.o.offe hw2 hn9 (by omega)); replace Vq := hZ (Vq.o.offe hw2 hn9); replace Vr := hZ (Vr.o.offe hw2 hn9); replace HJ := hZ (bO hw2 HJ.o (by have := HJs.o; omega)); clear hw2 hn9; refine lU 19 fun K hK => ?_; go_simp
      try rw [hw]
      refine hK.out _ _ ?_; clear hK K
      try simp only [Act.put, sX1, sX2, sX3]
      clear hw e0 e1 e2 e3; refine pU 20 13 ?_; refine dU ?_; clear hHeld; refine qAp ⟨_, _, _, _, _, _, _, _, _, _, _, _, _, _, _, _, _, _, by first | rfl | (simp only [sX1, sX2, sX3]; rfl), Fq, Fr, HJ, hZ (by have := HJs.o; omega)⟩
     ·skip
      go_simp; obtain ⟨w7, hw⟩ := eX (w6.alloc (.cells #[.bool false, .slice none 0 0] 58)); have hB := aB hw; obtain ⟨b12, hb⟩ := eX w6.heap.size; have Fr' : Hid (Bx w7 b12 0) := hZ (by rw [<- hw, <- hb]; exact Bx.new (qAv _)); have hge_b12 : w5.heap.size <= b12 := by rw [<- hb]; exact HBr.o.size
      have hne_b11_b12 : b11 < b12 := by rw [<- hb]; exact Fq.o.lt
      replace HBr := oT HBr hB; replace Vx := Vx.b hB; replace Vy := Vy.b hB; replace Fq := Fq.b hB; replace HJ := bT HJ hB; clear hB; have Fr := Fr'; clear Fr'; rw [hw]
      try rw [hb]
      clear hw hb; refine hK.out _ _ HBr.o (fun hHeld => ?_); clear hK K
      try simp only [Act.put, sX1, sX2, sX3]
      refine eU 11 fun K hK => ?_; go_simp; refine (qHh (w := w7) Vx.o Vy.o Sx.o Sy.o (by omega) (by omega) (by omega)).mono ?_; rintro e w8 ⟨s_q, a_q, n_q, c_q, s_r, a_r, n_r, c_r, rfl, h_q, h_r, hB⟩; have Vq := hZ h_q; have Vr := hZ h_r; replace HBr := oT HBr hB; replace Vx := Vx.b hB; replace Vy := Vy.b hB; replace Fq := Fq.b hB; replace Fr := Fr.b hB; replace HJ := bT HJ hB; clear hB; clear h_q h_r; refine hK.out _ _ HBr.o (fun hHeld => ?_); clear hK K
      try simp only [Act.put, sX1, sX2, sX3]
      refine pU 12 48 ?_; refine pU 13 61 ?_; refine pU 14 62 ?_; refine pU 15 63 ?_; obtain ⟨s_9, a_9, n_9, c_9, t_9, -⟩ := Fq.o; have e0 := t_9.cell0; have e1 := t_9.cell1; have e2 := t_9.frozen 0; have e3 := t_9.frozen 1; clear t_9; have hn9 : qAg w8 (b11) := Fq.o.noInt; obtain ⟨w9, hw⟩ := eX ((w8.setCell ⟨b11, 0, none⟩ (.bool s_q)).setCell ⟨b11, 1, none⟩ (.slice a_q n_q c_q)); have hw2 : st2 w8 (b11) (0) (1) s_q a_q n_q c_q = w9 := hw; replace Fq := hZ (Bx.put Fq.o Vq.o); rw [hw2] at Fq; replace Vx := hZ (Vx.o.offe hw2 hn9); replace Vy := hZ (Vy.o.offe hw2 hn9); replace Fr := hZ (Fr.o.offe hw2 hn9 (by omega)); replace Vq := hZ (Vq.o.offe hw2 hn9); replace Vr := hZ (Vr.o.offe hw2 hn9); replace HJ := hZ (bO hw2 HJ.o (by have := HJs.o; omega)); clear hw2 hn9; replace HBr := hZ (HBr.o.offs hw hge_b11); refine eU 18 fun K hK => ?_; go_simp
      try rw [hw]
      refine hK.out _ _ HBr.o (fun hHeld => ?_); clear hK K
      try simp only [Act.put, sX1, sX2, sX3]
      clear hw e0 e1 e2 e3; obtain ⟨s_9, a_9, n_9, c_9, t_9, -⟩ := Fr.o; have e0 := t_9.cell0; have e1 := t_9.cell1; have e2 := t_9.frozen 0; have e3 := t_9.frozen 1; clear t_9; have hn9 : qAg w9 (b12) := Fr.o.noInt; obtain ⟨w10, hw⟩ := eX ((w9.setCell ⟨b12, 0, none⟩ (.bool s_r)).setCell ⟨b12, 1, none⟩ (.slice a_r n_r c_r)); have hw2 : st2 w9 (b12) (0) (1) s_r a_r n_r c_r = w10 := hw; replace Fr := hZ (Bx.put Fr.o Vr.o); rw [hw2] at Fr; replace Vx := hZ (Vx.o.offe hw2 hn9); replace Vy := hZ (Vy.o.offe hw2 hn9); replace Fq := hZ (Fq.o.offe hw2 hn9 (by omega)); replace Vq := hZ (Vq.o.offe hw2 hn9); replace Vr := hZ (Vr.o.offe hw2 hn9); replace HJ := hZ (bO hw2 HJ.o (by have := HJs.o; omega)); clear hw2 hn9; refine lU 19 fun K hK => ?_; go_simp
      try rw [hw]
      refine hK.out _ _ ?_; clear hK K
      try simp only [Act.put, sX1, sX2, sX3]
      clear hw e0 e1 e2 e3; refine pU 20 13 ?_; refine dU ?_; clear hHeld; refine qAp ⟨_, _, _, _, _, _, _, _, _, _, _, _, _, _, _, _, _, _, by first | rfl | (simp only [sX1, sX2, sX3]; rfl), Fq, Fr, HJ, hZ (by have := HJs.o; omega)⟩
    ·skip
     go_simp; obtain ⟨w6, hw⟩ := eX (w5.alloc (.cells #[.bool false, .slice none 0 0] 58)); have hB := aB hw; obtain ⟨b12, hb⟩ := eX w5.heap.size; have Fr' : Hid (Bx w6 b12 0) := hZ (by rw [<- hw, <- hb]; exact Bx.new (qAv _)); have hge_b12 : w5.heap.size <= b12 := by rw [<- hb]; exact HBr.o.size
     replace HBr := oT HBr hB; replace Vx := Vx.b hB; replace Vy := Vy.b hB; replace HJ := bT HJ hB; clear hB; have Fr := Fr'; clear Fr'; rw [hw]
     try rw [hb]
     clear hw hb; refine hK.out _ _ HBr.o (fun hHeld => ?_); clear hK K
     try simp only [Act.put, sX1, sX2, sX3]
     refine qIr [11, 16] (by kernel_rfl) (by simp) ⟨qA7 11 rfl (fun K hK => ?_), qA7 16 rfl (fun K hK => ?_), trivial⟩
     ·skip
      go_simp; refine (qHh (w := w6) Vx.o Vy.o Sx.o Sy.o (by omega) (by omega) (by omega)).mono ?_; rintro e w7 ⟨s_q, a_q, n_q, c_q, s_r, a_r, n_r, c_r, rfl, h_q, h_r, hB⟩; have Vq := hZ h_q; have Vr := hZ h_r; replace HBr := oT HBr hB; replace Vx := Vx.b hB; replace Vy := Vy.b hB; replace Fr := Fr.b hB; replace HJ := bT HJ hB; clear hB; clear h_q h_r; refine hK.out _ _ HBr.o (fun hHeld => ?_); clear hK K
      try simp only [Act.put, sX1, sX2, sX3]
      refine pU 12 48 ?_; refine pU 13 61 ?_; refine pU 14 62 ?_; refine pU 15 63 ?_; refine eU 16 fun K hK => ?_; go_simp; obtain ⟨w8, hw⟩ := eX (w7.alloc (.cells #[.bool false, .slice none 0 0] 58)); have hB := aB hw; obtain ⟨b11, hb⟩ := eX w7.heap.size; have Fq' : Hid (Bx w8 b11 0) := hZ (by rw [<- hw, <- hb]; exact Bx.new (qAv _)); have hge_b11 : w5.heap.size <= b11 := by rw [<- hb]; exact HBr.o.size
      have hne_b12_b11 : b12 < b11 := by rw [<- hb]; exact Fr.o.lt
      replace HBr := oT HBr hB; replace Vx := Vx.b hB; replace Vy := Vy.b hB; replace Fr := Fr.b hB; replace Vq := Vq.b hB; replace Vr := Vr.b hB; replace HJ := bT HJ hB; clear hB; have Fq := Fq'; clear Fq'; rw [hw]
      try rw [hb]
      clear hw hb; refine hK.out _ _ HBr.o (fun hHeld => ?_); clear hK K
      try simp only [Act.put, sX1, sX2, sX3]
      obtain ⟨s_9, a_9, n_9, c_9, t_9, -⟩ := Fq.o; have e0 := t_9.cell0; have e1 := t_9.cell1; have e2 := t_9.frozen 0; have e3 := t_9.frozen 1; clear t_9; have hn9 : qAg w8 (b11) := Fq.o.noInt; obtain ⟨w9, hw⟩ := eX ((w8.setCell ⟨b11, 0, none⟩ (.bool s_q)).setCell ⟨b11, 1, none⟩ (.slice a_q n_q c_q)); have hw2 : st2 w8 (b11) (0) (1) s_q a_q n_q c_q = w9 := hw; replace Fq := hZ (Bx.put Fq.o Vq.o); rw [hw2] at Fq; replace Vx := hZ (Vx.o.offe hw2 hn9); replace Vy := hZ (Vy.o.offe hw2 hn9); replace Fr := hZ (Fr.o.offe hw2 hn9 (by omega)); replace Vq := hZ (Vq.o.offe hw2 hn9); replace Vr := hZ (Vr.o.offe hw2 hn9); replace HJ := hZ (bO hw2 HJ.o (by have := HJs.o; omega)); clear hw2 hn9; replace HBr := hZ (HBr.o.offs hw hge_b11); refine eU 18 fun K hK => ?_; go_simp
      try rw [hw]
      refine hK.out _ _ HBr.o (fun hHeld => ?_); clear hK K
      try simp only [Act.put, sX1, sX2, sX3]
      clear hw e0 e1 e2 e3; obtain ⟨s_9, a_9, n_9, c_9, t_9, -⟩ := Fr.o; have e0 := t_9.cell0; have e1 := t_9.cell1; have e2 := t_9.frozen 0; have e3 := t_9.frozen 1; clear t_9; have hn9 : qAg w9 (b12) := Fr.o.noInt; obtain ⟨w10, hw⟩ := eX ((w9.setCell ⟨b12, 0, none⟩ (.bool s_r)).setCell ⟨b12, 1, none⟩ (.slice a_r n_r c_r)); have hw2 : st2 w9 (b12) (0) (1) s_r a_r n_r c_r = w10 := hw; replace Fr := hZ (Bx.put Fr.o Vr.o); rw [hw2] at Fr; replace Vx := hZ (Vx.o.offe hw2 hn9); replace Vy := hZ (Vy.o.offe hw2 hn9); replace Vq := hZ (Vq.o.offe hw2 hn9); replace Vr := hZ (Vr.o.offe hw2 hn9); replace Fq := hZ (Fq.o.offe hw2 hn9 (by omega)); replace HJ := hZ (bO hw2 HJ.o (by have := HJs.o; omega)); clear hw2 hn9; refine lU 19 fun K hK => ?_; go_simp
      try rw [hw]
      refine hK.out _ _ ?_; clear hK K
      try simp only [Act.put, sX1, sX2, sX3]
      clear hw e0 e1 e2 e3; refine pU 20 13 ?_; refine dU ?_; clear hHeld; refine qAp ⟨_, _, _, _, _, _, _, _, _, _, _, _, _, _, _, _, _, _, by first | rfl | (simp only [sX1, sX2, sX3]; rfl), Fq, Fr, HJ, hZ (by have := HJs.o; omega)⟩
     ·skip
      go_simp; obtain ⟨w7, hw⟩ := eX (w6.alloc (.cells #[.bool false, .slice none 0 0] 58)); have hB := aB hw; obtain ⟨b11, hb⟩ := eX w6.heap.size; have Fq' : Hid (Bx w7 b11 0) := hZ (by rw [<- hw, <- hb]; exact Bx.new (qAv _)); have hge_b11 : w5.heap.size <= b11 := by rw [<- hb]; exact HBr.o.size
      have hne_b12_b11 : b12 < b11 := by rw [<- hb]; exact Fr.o.lt
      replace HBr := oT HBr hB; replace Vx := Vx.b hB; replace Vy := Vy.b hB; replace Fr := Fr.b hB; replace HJ := bT HJ hB; clear hB; have Fq := Fq'; clear Fq'; rw [hw]
      try rw [hb]
      clear hw hb; refine hK.out _ _ HBr.o (fun hHeld => ?_); clear hK K
      try simp only [Act.put, sX1, sX2, sX3]
      refine eU 11 fun K hK => ?_; go_simp; refine (qHh (w := w7) Vx.o Vy.o Sx.o Sy.o (by omega) (by omega) (by omega)).mono ?_; rintro e w8 ⟨s_q, a_q, n_q, c_q, s_r, a_r, n_r, c_r, rfl, h_q, h_r, hB⟩; have Vq := hZ h_q; have Vr := hZ h_r; replace HBr := oT HBr hB; replace Vx := Vx.b hB; replace Vy := Vy.b hB; replace Fr := Fr.b hB; replace Fq := Fq.b hB; replace HJ := bT HJ hB; clear hB; clear h_q h_r; refine hK.out _ _ HBr.o (fun hHeld => ?_); clear hK K
      try simp only [Act.put, sX1, sX2, sX3]
      refine pU 12 48 ?_; refine pU 13 61 ?_; refine pU 14 62 ?_; refine pU 15 63 ?_; obtain ⟨s_9, a_9, n_9, c_9, t_9, -⟩ := Fq.o; have e0 := t_9.cell0; have e1 := t_9.cell1; have e2 := t_9.frozen 0; have e3 := t_9.frozen 1; clear t_9; have hn9 : qAg w8 (b11) := Fq.o.noInt; obtain ⟨w9, hw⟩ := eX ((w8.setCell ⟨b11, 0, none⟩ (.bool s_q)).setCell ⟨b11, 1, none⟩ (.slice a_q n_q c_q)); have hw2 : st2 w8 (b11) (0) (1) s_q a_q n_q c_q = w9 := hw; replace Fq := hZ (Bx.put Fq.o Vq.o); rw [hw2] at Fq; replace Vx := hZ (Vx.o.offe hw2 hn9); replace Vy := hZ (Vy.o.offe hw2 hn9); replace Fr := hZ (Fr.o.offe hw2 hn9 (by omega)); replace Vq := hZ (Vq.o.offe hw2 hn9); replace Vr := hZ (Vr.o.offe hw2 hn9); replace HJ := hZ (bO hw2 HJ.o (by have := HJs.o; omega)); clear hw2 hn9; replace HBr := hZ (HBr.o.offs hw hge_b11); refine eU 18 fun K hK => ?_; go_simp
      try rw [hw]
      refine hK.out _ _ HBr.o (fun hHeld => ?_); clear hK K
      try simp only [Act.put, sX1, sX2, sX3]
      clear hw e0 e1 e2 e3; obtain ⟨s_9, a_9, n_9, c_9, t_9, -⟩ := Fr.o; have e0 := t_9.cell0; have e1 := t_9.cell1; have e2 := t_9.frozen 0; have e3 := t_9.frozen 1; clear t_9; have hn9 : qAg w9 (b12) := Fr.o.noInt; obtain ⟨w10, hw⟩ := eX ((w9.setCell ⟨b12, 0, none⟩ (.bool s_r)).setCell ⟨b12, 1, none⟩ (.slice a_r n_r c_r)); have hw2 : st2 w9 (b12) (0) (1) s_r a_r n_r c_r = w10 := hw; replace Fr := hZ (Bx.put Fr.o Vr.o); rw [hw2] at Fr; replace Vx := hZ (Vx.o.offe hw2 hn9); replace Vy := hZ (Vy.o.offe hw2 hn9); replace Fq := hZ (Fq.o.offe hw2 hn9 (by omega)); replace Vq := hZ (Vq.o.offe hw2 hn9); replace Vr := hZ (Vr.o.offe hw2 hn9); replace HJ := hZ (bO hw2 HJ.o (by have := HJs.o; omega)); clear hw2 hn9; refine lU 19 fun K hK => ?_; go_simp
      try rw [hw]
      refine hK.out _ _ ?_; clear hK K
      try simp only [Act.put, sX1, sX2, sX3]
      clear hw e0 e1 e2 e3; refine pU 20 13 ?_; refine dU ?_; clear hHeld; refine qAp ⟨_, _, _, _, _, _, _, _, _, _, _, _, _, _, _, _, _, _, by first | rfl | (simp only [sX1, sX2, sX3]; rfl), Fq, Fr, HJ, hZ (by have := HJs.o; omega)⟩
   ·skip
    rintro a w5 ⟨v49, v50, v51, v52, v53, v54, v55, v56, v57, v58, v59, v60, v48, v61, v62, v63, b11, b12, rfl, Fq, Fr, HJ, Hxy⟩; simp only [sX1, sX2, sX3]; have hB := HJ.o; have Hbb : Hid (b11 ≠ b12 /\ g < b11 /\ g < b12) := hZ (by have h1 := Hxy.o; have h2 := Rr.o.lt; omega); clear HJ Hxy; replace Rr := Rr.b hB; replace RS := RS.b hB; replace HP := HP.b hB; replace HB := bT HB hB; clear hB; obtain ⟨qq, hqq⟩ := eX (x / y); obtain ⟨rr, hrr⟩ := eX (x % y); rw [hqq] at Fq; rw [hrr] at Fr HFl; have Hqq := hZ hqq; have Hrr := hZ hrr; have Sq : Hid (Sz (66 * t + 65) qq) := hZ (hqq ▸ Sx.o.div (by omega)); have Sr : Hid (Sz 64 rr) := hZ (hrr ▸ Sy.o.mod (by omega)); clear hqq hrr; obtain ⟨s_r, a_r, n_r, c_r, t_r, h_r⟩ := Fr.o; have d0r := t_r.cell0; have d1r := t_r.cell1; have Vr := hZ h_r; clear t_r h_r
    go_wp2_with fail
    clear d0r d1r; by_cases hr0 : rr = 0
    ·skip
     refine (qAD (w := w5) Vr.o Sr.o (by omega)).mono ?_; rintro e w6 ⟨he, hB⟩; rw [show qAK rr 0 = 0 by rw [hr0]; exact qAS 0] at he; subst he; replace Rr := Rr.b hB; replace RS := RS.b hB; replace HP := HP.b hB; replace Fq := Fq.b hB; replace Fr := Fr.b hB; replace Vr := Vr.b hB; replace HB := bT HB hB; clear hB; clear Vr Fr
     go_wp2_with fail
     have HS := hZ (qFD.start (q := qq) Hlen.o Hlow.o); have SW : Hid (∀ x ∈ rest, Sz (66 * (t + 1) + 64) x) := hZ (fun x hx => (SV.o x hx).mono (by omega))
     go_loopw [14] (fun i wr => ∃ (k : Nat) (rest2 : List Int), p <= k /\ k <= n /\ i = .int .i64 k /\ Hid (qFD qq n p k row rest rest2) /\ Hid (∀ x ∈ rest2, Sz (66 * (t + 1) + 64) x) /\ Hid (qAF wr g rest2) /\ Hid (qCd wr R l n b) /\ Hid (Bx wr b11 qq) /\ Hid (qAo wr (.slice (some ⟨bp, 0, none⟩) b.length cp) (b.map (fun r => (pv r : Int)))) /\ Hid (Below w0.heap.size w0 wr)) (fun i _ => n - (intOf i).toNat)
     case atStart => exact ⟨p, rest, by omega, by omega, rfl, HS, SW, Rr, RS, Fq, HP, HB⟩
     case round =>
      clear HS SW Rr RS Fq HP HB; obtain ⟨k, rest2, hpk, hk, rfl, HS, SW, Rr, RS, Fq, HP, HB⟩ := hrel; obtain ⟨w6, rfl⟩ := eY wr; by_cases hkn : k < n
      ·skip
       have k1 : (0 : Int) <= (k : Int) := by omega
       have k2 : (k : Int) < (n : Int) := by omega
       have Hkr : Hid (k < rest2.length) := hZ (by rw [HS.o.len]; exact hkn); have Hk0 : Hid (k < rest.length) := hZ (by rw [Hlen.o]; exact hkn); have Hkrow : Hid (k < row.length) := hZ (by rw [Hrl.o]; exact hkn)
       go_wp2_with fail
       obtain ⟨w7, hwd⟩ := eX w6.drew; have hB := dB hwd; replace Rr := Rr.b hB; replace RS := RS.b hB; replace Fq := Fq.b hB; replace HP := HP.b hB; replace HB := bT HB hB; clear hB; have HBr : Hid (qAc (fun b => False) w7 w7) := hZ (qAc.refl _ _); refine qAx [17] (fun w' => qAc (fun b => False) w7 w') (by kernel_rfl) (by rw [hwd]; exact qAc.refl _ _) (fun hHeld => ?_); rw [hwd] at hHeld ⊢; clear hwd; have e0 := RS.o.get t htl2; rw [Hgr.o, Hcr.o] at e0; have Rp := hZ (RP.o _ RS.o); obtain ⟨s_u, a_u, n_u, c_u, d0u, d1u, h_u⟩ := Rr.o.get k Hkr.o; obtain ⟨u, hu⟩ := eX (rest2[k]'Hkr.o); rw [hu] at h_u; have Vu := hZ h_u; have Hu := hZ hu; have Su : Hid (Sz (66 * t + 64) u) := hZ (by have h9 := HS.o.left k (Nat.le_refl _); rw [qAk Hkr.o, qAk Hk0.o, hu] at h9; rw [h9]; exact SV.o _ (List.getElem_mem _)); clear h_u hu; obtain ⟨s_v, a_v, n_v, c_v, d0v, d1v, h_v⟩ := Rp.o.get k Hkrow.o; obtain ⟨vz, hvz⟩ := eX (row[k]'Hkrow.o); rw [hvz] at h_v; have Vv := hZ h_v; have Hvz := hZ hvz; have Sv : Hid (Sz 64 vz) := hZ (hvz ▸ Srow.o _ (List.getElem_mem _)); clear h_v hvz; obtain ⟨s_q, a_q, n_q, c_q, t_q, h_q⟩ := Fq.o; have d0q := t_q.cell0; have d1q := t_q.cell1; have Vq := hZ h_q; clear t_q h_q; refine pU 0 74 ?_; refine pU 1 75 ?_; refine pU 2 76 ?_; refine pU 3 77 ?_; refine pU 4 78 ?_; refine tV 5 79 (cF d0u Rr.o.lt) (cF d1u Rr.o.lt) ?_; refine tV 6 80 (cF d0q Fq.o.lt) (cF d1q Fq.o.lt) ?_; refine pU 7 81 ?_; refine pU 8 82 ?_; refine pU 9 83 ?_; refine tU 10 84 (cF e0 RS.o.lt) ?_; refine pU 11 85 ?_; refine pU 12 86 ?_; refine tV 13 87 (cF d0v Rp.o.lt) (cF d1v Rp.o.lt) ?_; clear e0 d0u d1u d0v d1v Rp; clear d0q d1q
       skip
       refine eU 14 fun K hK => ?_; go_simp; refine (qBp (w := w7) Vq.o Vv.o Sq.o Sv.o (by omega)).mono ?_; rintro e w8 ⟨s_s, a_s, n_s, c_s, rfl, h_s, hB⟩; have Vs := hZ h_s; replace HBr := oT HBr hB; replace Rr := Rr.b hB; replace RS := RS.b hB; replace Fq := Fq.b hB; replace HP := HP.b hB; replace Vu := Vu.b hB; replace Vv := Vv.b hB; replace Vq := Vq.b hB; replace HB := bT HB hB; clear hB; clear h_s; refine hK.out _ _ HBr.o (fun hHeld => ?_); clear hK K
       try simp only [Act.put, sX1, sX2, sX3]
       refine eU 15 fun K hK => ?_; go_simp; refine (qCV (w := w8) (k := 66 * t + 129) Vu.o Vs.o (Su.o.mono (by omega)) ((Sq.o.mul Sv.o).mono (by omega)) (by omega)).mono ?_; rintro e w9 ⟨s_z, a_z, n_z, c_z, rfl, h_z, hB⟩; have Vz := hZ h_z; replace HBr := oT HBr hB; replace Rr := Rr.b hB; replace RS := RS.b hB; replace Fq := Fq.b hB; replace HP := HP.b hB; replace Vu := Vu.b hB; replace Vv := Vv.b hB; replace Vq := Vq.b hB; replace Vs := Vs.b hB; replace HB := bT HB hB; clear hB; clear h_z; refine hK.out _ _ HBr.o (fun hHeld => ?_); clear hK K
       try simp only [Act.put, sX1, sX2, sX3]
       refine pU 16 90 ?_; obtain ⟨s_9, a_9, n_9, c_9, e0, e1, -⟩ := Rr.o.get (k) Hkr.o; have e2 := Rr.o.frozen (k * 2); have e3 := Rr.o.frozen (k * 2 + 1); have hn9 : qAg w9 (g) := Rr.o.noInt; obtain ⟨w10, hw⟩ := eX ((w9.setCell ⟨g, k * 2, none⟩ (.bool s_z)).setCell ⟨g, k * 2 + 1, none⟩ (.slice a_z n_z c_z)); have hw2 : st2 w9 (g) (k * 2) (k * 2 + 1) s_z a_z n_z c_z = w10 := hw; replace Rr := hZ (qAF.put' Rr.o (k) Hkr.o Vz.o); rw [hw2] at Rr; replace RS := hZ (qCd.off9 (g := g) (o1 := k * 2) (o2 := k * 2 + 1) (s := s_z) (a := a_z) (n' := n_z) (c := c_z) RS.o hn9 ⟨by have := HGR.o.1; omega, fun i hi => by have := HGR.o.2 i hi; omega⟩); rw [hw2] at RS; replace Fq := hZ (Fq.o.offe hw2 hn9 (by have := Hbb.o; omega)); replace HP := hZ (qJW (g := g) (o1 := k * 2) (o2 := k * 2 + 1) (s := s_z) (a := a_z) (n' := n_z) (c' := c_z) HP.o (by have := HBp.o; omega)); rw [hw2] at HP; replace Vu := hZ (Vu.o.offe hw2 hn9); replace Vv := hZ (Vv.o.offe hw2 hn9); replace Vq := hZ (Vq.o.offe hw2 hn9); replace Vs := hZ (Vs.o.offe hw2 hn9); replace Vz := hZ (Vz.o.offe hw2 hn9); replace HB := hZ (bO hw2 HB.o HG0.o); clear hw2 hn9; refine lU 17 fun K hK => ?_; go_simp
       try rw [hw]
       refine hK.out _ _ ?_; clear hK K
       try simp only [Act.put, sX1, sX2, sX3]
       clear hw e0 e1 e2 e3; refine dU ?_; clear hHeld
       go_wp2_with fail
       go_roundw
       case rel => exact ⟨k + 1, rest2.set k (u - qq * vz), by omega, by omega, by go_num, hZ (HS.o.step hkn (by rw [qAk Hkr.o, qAk Hkrow.o, Hu.o, Hvz.o])), hZ (fun x hx => by rcases List.mem_or_eq_of_mem_set hx with h9 | h9; exact SW.o x h9; rw [h9]; exact ((Su.o.mono (by omega)).sub ((Sq.o.mul Sv.o).mono (show 66 * t + 65 + 64 <= 66 * t + 129 by omega))).mono (by omega)), Rr, RS, Fq, HP, HB⟩
       case measure => simp [intOf]; omega
      ·skip
       obtain rfl : k = n := by omega
       go_wp2_with fail
       go_roundw
       case rel => exact ⟨t + 1, rest2, by omega, by go_num, hZ (HSt.o rest2 (by rw [HVp.o.1, HVp.o.2, Hrr.o]; exact hr0) HS.o.len (fun j => by rw [HVp.o.1, HVp.o.2, Hqq.o]; exact HS.o.all Hlen.o Hrl.o j)), SW, Rr, RS, HP, HB⟩
       case measure => simp [intOf]; omega
    ·skip
     refine (qAD (w := w5) Vr.o Sr.o (by omega)).mono ?_; rintro e w6 ⟨he, hB⟩; obtain ⟨sgr, hs9, q0r, q1r⟩ := qA0 (x := rr) hr0; rw [hs9] at he; subst he; clear hs9; replace Rr := Rr.b hB; replace RS := RS.b hB; replace HP := HP.b hB; replace Fq := Fq.b hB; replace Fr := Fr.b hB; replace Vr := Vr.b hB; replace HB := bT HB hB; clear hB
     go_wp2_with fail
     go_ret; exact ⟨HB.o, false, rfl, ⟨fun h => by simp at h, fun h => absurd h.2.2.2 (HFl.o hr0)⟩⟩
  ·skip
   obtain rfl : t = b.length := by omega
   have HD := hZ HRt.o.done; have Hrl := hZ HRt.o.len
   go_wp2_with fail
   have HB9 : Hid (b.length <= 64 /\ n <= 128) := hZ ⟨by omega, by omega⟩
   go_loopw [94] (fun i wr => ∃ k : Nat, k <= n /\ i = .int .i64 k /\ Hid (∀ c, c < k -> vec rest c = 0) /\ Hid (qAF wr g rest) /\ Hid (Below w0.heap.size w0 wr)) (fun i _ => n - (intOf i).toNat)
   case atStart => exact ⟨0, by omega, rfl, hZ (fun c h => by omega), Rr, HB⟩
   case round =>
    clear Rr RS HP HB; obtain ⟨k, hk, rfl, HZ, Rr, HB⟩ := hrel; obtain ⟨w4, rfl⟩ := eY wr; by_cases hkn : k < n
    ·skip
     have i1 : (0 : Int) <= (k : Int) := by omega
     have i2 : (k : Int) < (n : Int) := by omega
     have Hkr : Hid (k < rest.length) := hZ (by rw [Hrl.o]; exact hkn); obtain ⟨s_x, a_x, n_x, c_x, d0x, d1x, h_x⟩ := Rr.o.get k Hkr.o; obtain ⟨x, hx⟩ := eX (rest[k]'Hkr.o); rw [hx] at h_x; have Vx := hZ h_x; have Hx := hZ hx; have Sx : Hid (Sz (66 * b.length + 64) x) := hZ (hx ▸ SV.o _ (List.getElem_mem _)); clear h_x hx; obtain ⟨w5, hw⟩ := eX ((w4.alloc (.cells #[.bool s_x, .slice a_x n_x c_x] 58))); have hB := aB hw; obtain ⟨bx, hb_bx⟩ := eX w4.heap.size; have h9 := Bx.new (w := w4) Vx.o; rw [hw, hb_bx] at h9; have Fx' := hZ h9; have hge_bx : w4.heap.size <= bx := by omega
     clear h9; replace Rr := Rr.b hB; replace Vx := Vx.b hB; replace HB := bT HB hB; have Fx := Fx'; clear Fx'; clear hB; obtain ⟨s_p, a_p, n_p, c_p, t_p, h_p⟩ := Fx.o; have d0p := t_p.cell0; have d1p := t_p.cell1; have Vp := hZ h_p; clear t_p h_p
     go_wp2_with fail
     clear hw hb_bx d0x d1x; clear d0p d1p; by_cases hx0 : x = 0
     ·skip
      refine (qAD (w := w5) Vp.o Sx.o (by omega)).mono ?_; rintro e w6 ⟨he, hB⟩; rw [show qAK x 0 = 0 by rw [hx0]; exact qAS 0] at he; subst he; replace Rr := Rr.b hB; replace Vx := Vx.b hB; replace Fx := Fx.b hB; replace Vp := Vp.b hB; replace HB := bT HB hB; clear hB
      go_wp2_with fail
      go_roundw
      case rel => exact ⟨k + 1, by omega, by go_num, hZ (fun c hc => if h9 : c < k then HZ.o c h9 else by rw [show c = k by omega, qAk Hkr.o, Hx.o]; exact hx0), Rr, HB⟩
      case measure => simp [intOf]; omega
     ·skip
      refine (qAD (w := w5) Vp.o Sx.o (by omega)).mono ?_; rintro e w6 ⟨he, hB⟩; obtain ⟨sgp, hs9, q0p, q1p⟩ := qA0 (x := x) hx0; rw [hs9] at he; subst he; clear hs9; replace Rr := Rr.b hB; replace Vx := Vx.b hB; replace Fx := Fx.b hB; replace Vp := Vp.b hB; replace HB := bT HB hB; clear hB
      go_wp2_with fail
      go_ret; exact ⟨HB.o, false, rfl, ⟨fun h => by simp at h, fun h => absurd (HD.o.1 h.2.2.2 _ (List.getElem_mem Hkr.o)) (by rw [Hx.o]; exact hx0)⟩⟩
    ·skip
     go_wp2_with fail
     go_ret; exact ⟨HB.o, true, rfl, ⟨fun _ => ⟨HB9.o.1, by rw [HN.o]; exact HB9.o.2, by rw [HN.o]; exact HI.o, HD.o.2 (fun x hx => by obtain ⟨j, hj, rfl⟩ := List.mem_iff_getElem.1 hx; have := HZ.o j (by have := Hrl.o; omega); rwa [qAk hj] at this)⟩, fun _ => rfl⟩⟩
end Go.Proofs.Ytlmbebbdamgfpaa
