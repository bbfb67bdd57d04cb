/- worldmintlaw06.LatticeMany. -/
import Derived.Test.YtlmbebbdamgfpaaQJLIsN
import Derived.Test.YtlmbebbdamgfpaaQJWSubtr
import Derived.Test.YtlmbebbdamgfpaaProg
import Derived.Test.YtlmbebbdamgfpaaQJLMat
import Derived.WalkKit
import Derived.WalkSpells
import Derived.WalkLawsBesides
set_option linter.unusedVariables false
set_option linter.unusedSimpArgs false
set_option maxHeartbeats 8000000
set_option maxRecDepth 100000
namespace Go.Proofs.Ytlmbebbdamgfpaa
open Go.RowKit
theorem qAm.blw {w w' : World} {v : Value} {l : List Int} (h : qAm w v l) (hb : Below w.heap.size w w') : qAm w' v l := h.below hb
instance {w w' : World} {v : Value} {l : List Int} : Mv w w' (qAm w v l) (qAm w' v l) := ⟨fun hb h => qAm.blw h hb⟩
theorem qJ2 {w : World} {bp n c g o1 o2 : Nat} {l : List Int} {s : Bool} {a : Option Addr} {n' c' : Nat} (h : qAm w (.slice (some ⟨bp, 0, none⟩) n c) l) (hne : bp ≠ g) : qAm (st2 w g o1 o2 s a n' c') (.slice (some ⟨bp, 0, none⟩) n c) l := by
 obtain ⟨a1, cap, hv, h1, h2, hc⟩ := h; injection hv with e1 e2 e3; subst e1 e2 e3; refine ⟨_, c, rfl, h1, h2, fun h0 => ?_⟩; obtain ⟨b', hb, hlt, hcc⟩ := hc h0; injection hb with hb; injection hb with hb; subst hb; refine ⟨bp, rfl, by rw [qET]; exact hlt, fun j hj => ?_⟩; obtain ⟨cs, k1, k2, k3⟩ := hcc j hj; refine ⟨cs, k1, k2, fun i hi => ?_⟩; have ho : qAb (fun b => b = g) w (st2 w g o1 o2 s a n' c') := (qAb.refl _ _).off' (.inl rfl); exact (ho.cell (p := ⟨bp, j * 1 + i, none⟩) hne hlt).trans (k3 i hi)
def qKG (w0 : World) (b : List (List Int)) (v : List Int) (e : Ending) (w' : World) : Prop :=
 Below w0.heap.size w0 w' /\ ∃ t : Bool, e = .returned (.bool t) /\ (t = true ↔ InB b v)
theorem qLa {w : World} {a : Option Addr} {n c g : Nat} {r : List Int} {t : TypeId} (h : qAm w (.slice a n c) r) (hg : One w g t (.slice a n c)) : qAD w (.slice (some ⟨g, 0, none⟩) 1 1) [r] := by
 refine ⟨_, 1, rfl, by simp, by omega, fun _ => ⟨g, rfl, hg.lt, fun j hj => ?_⟩⟩; simp only [List.length_singleton] at hj; obtain rfl : j = 0 := by omega
 refine ⟨_, ⟨_, rfl, h⟩, rfl, fun i hi => ?_⟩; obtain rfl : i = 0 := by omega
 exact hg.cell
theorem qKq {x : Int} (h1 : -9223372036854775808 <= x) (h2 : x <= 9223372036854775807) : Sz 64 x := by
 unfold Sz; have : (2 : Nat) ^ 64 = 18446744073709551616 := by decide
 omega
structure qFi (q : Int) (n p k : Nat) (row rest rest' : List Int) : Prop where
 len : rest'.length = n
 done : ∀ t, t < k -> vec rest' t = vec rest t - q * vec row t
 left : ∀ t, k <= t -> vec rest' t = vec rest t
theorem qFi.start {q : Int} {n p : Nat} {row rest : List Int} (hl : rest.length = n) (h0 : ∀ c, c < p -> vec row c = 0) : qFi q n p p row rest rest :=
 ⟨hl, fun t ht => by rw [h0 t ht, Int.mul_zero, Int.sub_zero], fun _ _ => rfl⟩
theorem qFi.step {q : Int} {n p k : Nat} {row rest rest' : List Int} (h : qFi q n p k row rest rest') (hk : k < n) {z : Int} (hz : z = vec rest' k - q * vec row k) : qFi q n p (k + 1) row rest (rest'.set k z) := by
 have hl := h.len; have e : ∀ t, vec (rest'.set k z) t = if t = k then z else vec rest' t := fun t => qBI (by omega) z t; refine ⟨by rw [List.length_set]; exact hl, fun t ht => ?_, fun t ht => by rw [e, if_neg (by omega)]; exact h.left t (by omega)⟩; rw [e]; by_cases h1 : t = k
 ·subst h1; rw [if_pos rfl, hz, h.left t (Nat.le_refl _)]
 ·rw [if_neg h1]; exact h.done t (by omega)
theorem qFi.all {q : Int} {n p : Nat} {row rest rest' : List Int} (h : qFi q n p n row rest rest') (hr : rest.length = n) (hrow : row.length = n) (t : Nat) : vec rest' t = vec rest t - q * vec row t := by
 rcases Nat.lt_or_ge t n with h1 | h1
 ·exact h.done t h1
 ·rw [qAq (by rw [h.len]; exact h1), qAq (by omega), qAq (by omega)]; simp
theorem qI4 (w0 : World) (vb vv : Value) (b : List (List Int)) (v : List Int) (h : qAD w0 vb b) (hv : qAm w0 vv v) (fb : ∀ r ∈ b, ∀ x ∈ r, -9223372036854775808 <= x /\ x <= 9223372036854775807) (fv : ∀ x ∈ v, -9223372036854775808 <= x /\ x <= 9223372036854775807) : Calls Try.prog 21 #[vb, vv] w0 (qKG w0 b v) := by
 have H := hZ h; have HV := hZ hv; have HB := hZ (Below.refl w0.heap.size w0); have HFb := hZ fb; have HFv := hZ fv; obtain ⟨av, cv, rfl, q1, q2⟩ := h.form; obtain ⟨ai, ci, rfl, q3, q4⟩ := hv.form; clear h hv fb fv; by_cases hb : 64 < b.length
 ·have s1 : (64 : Int) < (b.length : Int) := by omega
  go_enter Try.func21, Try.ntmps21
  go_wp2_with fail
  go_ret; exact ⟨HB.o, false, rfl, by simp [InB]; omega⟩
 have s1 : ¬ (64 : Int) < (b.length : Int) := by omega
 by_cases hc : 128 < v.length
 ·have s2 : (128 : Int) < (v.length : Int) := by omega
  go_enter Try.func21, Try.ntmps21
  go_wp2_with fail
  go_ret; exact ⟨HB.o, false, rfl, by simp [InB]; omega⟩
 have s2 : ¬ (128 : Int) < (v.length : Int) := by omega
 obtain ⟨n, hn⟩ := eX v.length; have HN := hZ hn; rw [hn] at HV q3 hc s2 ⊢; clear hn
 go_enter Try.func21, Try.ntmps21
 go_wp2_with fail
 refine (qFR w0 _ b n H.o (by omega) (by omega)).mono ?_; rintro e w1 ⟨hB, ⟨hi, rfl⟩ | ⟨hi, vp, rfl, hp⟩⟩
 ·replace HB := bT HB hB
  have HI := hZ hi; clear hB hi
  go_wp2_with fail
  go_ret; exact ⟨HB.o, false, rfl, by simp [InB]; intro _ _ h; rw [HN.o] at h; exact absurd h HI.o⟩
 replace HB := bT HB hB; have HI := hZ hi; have HP := hZ hp; obtain ⟨ap, cp, hvp, q5, q6⟩ := hp.form; rw [List.length_map] at hvp q5; subst hvp; clear hB hi hp; obtain ⟨w2, hw⟩ := eX (w1.alloc (.cells #[.slice ai n ci] 22)); have hB := aB hw; obtain ⟨g1, hg1⟩ := eX w1.heap.size; have On' : Hid (One w2 g1 22 (.slice ai n ci)) := hZ (by rw [<- hw, <- hg1]; exact One.new _ _ _); replace HP := hZ (HP.o.below hB); replace HB := bT HB hB; clear hB
 go_wp2_with fail
 clear hw hg1; have HM1 : Hid (qAD w2 (.slice (some ⟨g1, 0, none⟩) 1 1) [v]) := hZ (qLa (HV.o.below HB.o) On'.o); clear On'; refine (qDN _ [v] n w2 HM1.o (by simp) (fun r hr => by rw [List.mem_singleton.1 hr]; exact HN.o) (by omega) (fun r hr x hx => by rw [List.mem_singleton.1 hr] at hx; exact HFv.o x hx)).mono ?_; rintro e w3 ⟨R1, l1, rfl, h1, h2, h3, h4, h5, hB⟩; simp only [List.length_singleton] at h2; obtain ⟨g, c1, rfl⟩ : ∃ g c, l1 = [(g, c)] := by
  match l1, h2 with
  | [(g, c)], _ => exact ⟨g, c, rfl⟩
 have hrr := h1.rows.row 0 (by simp); have hcc := h1.rows.cap 0 (by simp); have h40 := h4 0 (by simp); simp only [List.getElem_cons_zero] at hrr hcc h40; have Rr := hZ hrr.1; have HGg : Hid (w2.heap.size <= g) := hZ h40; have e0 := h1.get 0 (by simp); simp only [List.getElem_cons_zero] at e0; obtain ⟨hcc1, hcc2⟩ := hcc; have Hs3 := hZ HB.o.size; have HPG : Hid (∀ bq, ap = some ⟨bq, 0, none⟩ -> 0 < b.length -> bq < g) := hZ (fun bq e h0 => by
  obtain ⟨b', cap', hv', hb', -⟩ := HP.o.at_ 0 (by simpa using h0); rw [e] at hv'; injection hv' with e1 e2 e3; injection e1 with e1; injection e1 with e1; subst e1; exact Nat.lt_of_lt_of_le hb' HGg.o)
 replace HP := hZ (HP.o.below hB); replace HB := bT HB hB; have HG0 : Hid (w0.heap.size <= g) := hZ (Nat.le_trans Hs3.o HGg.o); clear h1 h2 h3 h4 h5 hrr h40 hB HM1 HGg Hs3
 go_wp2_with fail
 clear e0; refine (qDN _ b n w3 (H.o.below HB.o) (by omega) (fun r hr => by obtain ⟨i, hi, rfl⟩ := List.mem_iff_getElem.1 hr; exact (HI.o.row i hi).1) (by omega) HFb.o).mono ?_; rintro e w4 ⟨R, l, rfl, h1, h2, h3, h4, h5, hB⟩; have RS := hZ h1; have Hl := hZ h2; have HGR : Hid (g < R /\ ∀ i (h : i < l.length), g < l[i].1) := hZ ⟨Nat.lt_of_lt_of_le Rr.o.lt h3, fun i hi => Nat.lt_of_lt_of_le Rr.o.lt (h4 i hi)⟩; have HCap : Hid (∀ i (h : i < l.length), l[i].2 = n) := hZ h5; replace HP := hZ (HP.o.below hB); replace Rr := Rr.b hB; replace HB := bT HB hB; clear hB; clear h1 h2 h3 h4 h5
 go_wp2_with fail
 have HRt := hZ (qCf.start (b := b) HN.o); have SV : Hid (∀ x ∈ v, Sz (66 * 0 + 64) x) := hZ (fun x hx => by have := HFv.o x hx; exact qKq this.1 this.2); have HPV : Hid (qAm w4 (.slice ap b.length cp) (b.map (fun r => (pv r : Int)))) := HP; have HBP : Hid (Below w4.heap.size w4 w4) := hZ (Below.refl _ _)
 go_loopw [43] (fun i wr => ∃ (t : Nat) (rest : List Int), t <= b.length /\ i = .int .i64 t /\ Hid (qCf b n v t rest) /\ Hid (∀ x ∈ rest, Sz (66 * t + 64) x) /\ Hid (qAE wr g rest) /\ Hid (qB7 wr R l n b) /\ Hid (qAm wr (.slice ap b.length cp) (b.map (fun r => (pv r : Int)))) /\ Hid (Below w0.heap.size w0 wr)) (fun i _ => b.length - (intOf i).toNat)
 case atStart => exact ⟨0, v, by omega, rfl, HRt, SV, Rr, RS, HPV, HB⟩
 case round =>
  clear HRt SV Rr RS HPV HP HB HBP; obtain ⟨t, rest, ht, rfl, HRt, SV, Rr, RS, HP, HB⟩ := hrel; obtain ⟨w4, rfl⟩ := eY wr; by_cases htl : t < b.length
  ·skip
   have i1 : (0 : Int) <= (t : Int) := by omega
   have i2 : (t : Int) < (b.length : Int) := by omega
   have htl2 : t < l.length := by rw [Hl.o]; exact htl
   obtain ⟨row, hrow⟩ := eX (b[t]); have HRow := hZ hrow; obtain ⟨k1, k2, k3⟩ := HI.o.row t htl; rw [hrow] at k1 k2 k3; have Hrl := hZ k1; have Srow : Hid (∀ x ∈ row, Sz 64 x) := hZ (fun x hx => by have := HFb.o row (hrow ▸ List.getElem_mem _) x hx; exact qKq this.1 this.2); have Hlow : Hid (∀ c, c < pv row -> vec row c = 0) := hZ (fun c hc => qFD hc); obtain ⟨bp, capp, hvp, hbp, n2⟩ := HP.o.at_ t (by simpa using htl); rw [List.length_map] at hvp; injection hvp with f1 f2 f3; subst f1; clear f2 f3; rw [List.getElem_map, hrow] at n2; have HBp : Hid (bp < g) := hZ (HPG.o bp rfl (by omega)); have HSt := hZ (fun rest' => HRt.o.step (rest' := rest') HI.o htl); have HFl := hZ (HRt.o.fails HI.o htl); rw [hrow] at HSt HFl; have Hlen := hZ HRt.o.len; obtain ⟨p, hp⟩ := eX (pv row); rw [hp] at n2 k2 k3 HSt HFl Hlow; clear hrow hp k1; have j1 : (0 : Int) <= (p : Int) := by omega
   have j2 : (p : Int) < (n : Int) := by omega
   have Hpr : Hid (p < rest.length) := hZ (by rw [Hlen.o]; exact k2); have Hprow : Hid (p < row.length) := hZ (by rw [Hrl.o]; exact k2); obtain ⟨x, hx⟩ := eX (rest[p]'Hpr.o); obtain ⟨y, hy⟩ := eX (row[p]'Hprow.o); have Hx := hZ hx; have Hy := hZ hy; have Sx : Hid (Sz (66 * t + 64) x) := hZ (hx ▸ SV.o _ (List.getElem_mem _)); have Sy : Hid (Sz 64 y) := hZ (hy ▸ Srow.o _ (List.getElem_mem _)); rw [qAj Hprow.o, hy] at k3; obtain ⟨gr, hgr⟩ := eX (l[t].1); have Hgr := hZ hgr; have Hcr := hZ (HCap.o t htl2); clear hx hy hgr; have HVp : Hid (vec rest p = x /\ vec row p = y) := hZ ⟨by rw [qAj Hpr.o, Hx.o], by rw [qAj Hprow.o, Hy.o]⟩; rw [HVp.o.1, HVp.o.2] at HFl; have ht64 : 66 * t + 64 <= 4300 := by omega
   have RP : Hid (∀ w, qB7 w R l n b -> qAE w gr row) := hZ (fun w h => by have := (h.rows.row t htl2).1; rw [Hgr.o, HRow.o] at this; exact this)
   go_wp2_with fail
   clear n2; refine qB4 (fun t ds a w' => ∃ v49 v50 v51 v52 v53 v54 v55 v56 v57 v58 v59 v60 v48 v61 v62 v63 b11 b12, a = ⟨(((((((((((((((((((t).setIfInBounds 11 (.pointer (some ⟨b11, 0, none⟩))).setIfInBounds 12 (.pointer (some ⟨b12, 0, none⟩))).setIfInBounds 13 (.int .i64 0)).setIfInBounds 49 v49).setIfInBounds 50 v50).setIfInBounds 51 v51).setIfInBounds 52 v52).setIfInBounds 53 v53).setIfInBounds 54 v54).setIfInBounds 55 v55).setIfInBounds 56 v56).setIfInBounds 57 v57).setIfInBounds 58 v58).setIfInBounds 59 v59).setIfInBounds 60 v60).setIfInBounds 48 v48).setIfInBounds 61 v61).setIfInBounds 62 v62).setIfInBounds 63 v63, ds⟩ /\ Hid (Bx w' b11 (x / y)) /\ Hid (Bx w' b12 (x % y)) /\ Hid (Below w4.heap.size w4 w') /\ Hid (b11 ≠ b12 /\ w4.heap.size <= b11 /\ w4.heap.size <= b12)) ?_ ?_
   ·skip
    have HJ := hZ (Below.refl w4.heap.size w4); obtain ⟨w5, hwd⟩ := eX w4.drew; have hB := dB hwd; replace Rr := Rr.b hB; replace RS := RS.b hB; replace HP := HP.b hB; replace HJ := bT HJ hB; clear hB; have HBr : Hid (qAb (fun b => w5.heap.size <= b) w5 w5) := hZ (qAb.refl _ _); refine qAs [19] (fun w' => qAb (fun b => w5.heap.size <= b) w5 w') (by kernel_rfl) (by rw [hwd]; exact qAb.refl _ _) (fun hHeld => ?_); rw [hwd] at hHeld ⊢; clear hwd; have e0 := RS.o.get t htl2; rw [Hgr.o, Hcr.o] at e0; have Rp := hZ (RP.o _ RS.o); obtain ⟨s_x, a_x, n_x, c_x, d0x, d1x, h_x⟩ := Rr.o.get p Hpr.o; rw [Hx.o] at h_x; have Vx := hZ h_x; clear h_x; obtain ⟨s_y, a_y, n_y, c_y, d0y, d1y, h_y⟩ := Rp.o.get p Hprow.o; rw [Hy.o] at h_y; have Vy := hZ h_y; clear h_y; refine pU 0 49 ?_; refine pU 1 50 ?_; refine pU 2 51 ?_; refine tV 3 52 (cT (Nat.not_le_of_lt Rr.o.lt) d0x Rr.o.lt) (cT (Nat.not_le_of_lt Rr.o.lt) d1x Rr.o.lt) ?_; refine pU 4 53 ?_; refine pU 5 54 ?_; refine pU 6 55 ?_; refine tU 7 56 (cT (Nat.not_le_of_lt RS.o.lt) e0 RS.o.lt) ?_; refine pU 8 57 ?_; refine pU 9 58 ?_; refine tV 10 59 (cT (Nat.not_le_of_lt Rp.o.lt) d0y Rp.o.lt) (cT (Nat.not_le_of_lt Rp.o.lt) d1y Rp.o.lt) ?_; clear e0 d0x d1x d0y d1y Rp RS Rr HP; have HJs : Hid (w4.heap.size <= w5.heap.size) := hZ HJ.o.size; refine qIj [11, 16, 17] (by kernel_rfl) (by simp) ⟨qA3 11 rfl (fun K hK => ?_), qA3 16 rfl (fun K hK => ?_), qA3 17 rfl (fun K hK => ?_), trivial⟩
    ·skip
     go_simp; refine (qGV (w := w5) Vx.o Vy.o Sx.o Sy.o (by omega) (by omega) (by omega)).mono ?_; rintro e w6 ⟨s_q, a_q, n_q, c_q, s_r, a_r, n_r, c_r, rfl, h_q, h_r, hB⟩; have Vq := hZ h_q; have Vr := hZ h_r; replace HBr := oT HBr hB; replace Vx := Vx.b hB; replace Vy := Vy.b hB; replace HJ := bT HJ hB; clear hB; clear h_q h_r; refine hK.out _ _ HBr.o (fun hHeld => ?_); clear hK K
     try simp only [Act.put, sX1, sX2, sX3]
     refine pU 12 48 ?_; refine pU 13 61 ?_; refine pU 14 62 ?_; refine pU 15 63 ?_; refine qIj [16, 17] (by kernel_rfl) (by simp) ⟨qA3 16 rfl (fun K hK => ?_), qA3 17 rfl (fun K hK => ?_), trivial⟩
     ·skip
      go_simp; obtain ⟨w7, hw⟩ := eX (w6.alloc (.cells #[.bool false, .slice none 0 0] 58)); have hB := aB hw; obtain ⟨b11, hb⟩ := eX w6.heap.size; have Fq' : Hid (Bx w7 b11 0) := hZ (by rw [<- hw, <- hb]; exact Bx.new (qAu _)); have hge_b11 : w5.heap.size <= b11 := by rw [<- hb]; exact HBr.o.size
      replace HBr := oT HBr hB; replace Vx := Vx.b hB; replace Vy := Vy.b hB; replace Vq := Vq.b hB; replace Vr := Vr.b hB; replace HJ := bT HJ hB; clear hB; have Fq := Fq'; clear Fq'; rw [hw]
      try rw [hb]
      clear hw hb; refine hK.out _ _ HBr.o (fun hHeld => ?_); clear hK K
      try simp only [Act.put, sX1, sX2, sX3]
      refine eU 17 fun K hK => ?_; go_simp; obtain ⟨w8, hw⟩ := eX (w7.alloc (.cells #[.bool false, .slice none 0 0] 58)); have hB := aB hw; obtain ⟨b12, hb⟩ := eX w7.heap.size; have Fr' : Hid (Bx w8 b12 0) := hZ (by rw [<- hw, <- hb]; exact Bx.new (qAu _)); have hge_b12 : w5.heap.size <= b12 := by rw [<- hb]; exact HBr.o.size
      have hne_b11_b12 : b11 < b12 := by rw [<- hb]; exact Fq.o.lt
      replace HBr := oT HBr hB; replace Vx := Vx.b hB; replace Vy := Vy.b hB; replace Vq := Vq.b hB; replace Vr := Vr.b hB; replace Fq := Fq.b hB; replace HJ := bT HJ hB; clear hB; have Fr := Fr'; clear Fr'; rw [hw]
      try rw [hb]
      clear hw hb; refine hK.out _ _ HBr.o (fun hHeld => ?_); clear hK K
      try simp only [Act.put, sX1, sX2, sX3]
      obtain ⟨s_9, a_9, n_9, c_9, t_9, -⟩ := Fq.o; have e0 := t_9.cell0; have e1 := t_9.cell1; have e2 := t_9.frozen 0; have e3 := t_9.frozen 1; clear t_9; have hn9 : qAg w8 (b11) := Fq.o.noInt; obtain ⟨w9, hw⟩ := eX ((w8.setCell ⟨b11, 0, none⟩ (.bool s_q)).setCell ⟨b11, 1, none⟩ (.slice a_q n_q c_q)); have hw2 : st2 w8 (b11) (0) (1) s_q a_q n_q c_q = w9 := hw; replace Fq := hZ (Bx.put Fq.o Vq.o); rw [hw2] at Fq; replace Vx := hZ (Vx.o.offe hw2 hn9); replace Vy := hZ (Vy.o.offe hw2 hn9); replace Vq := hZ (Vq.o.offe hw2 hn9); replace Vr := hZ (Vr.o.offe hw2 hn9); replace Fr := hZ (Fr.o.offe hw2 hn9 (by omega)); replace HJ := hZ (bO hw2 HJ.o (by have := HJs.o; omega)); clear hw2 hn9; replace HBr := hZ (HBr.o.offs hw hge_b11); refine eU 18 fun K hK => ?_; go_simp
      try rw [hw]
      refine hK.out _ _ HBr.o (fun hHeld => ?_); clear hK K
      try simp only [Act.put, sX1, sX2, sX3]
      clear hw e0 e1 e2 e3; obtain ⟨s_9, a_9, n_9, c_9, t_9, -⟩ := Fr.o; have e0 := t_9.cell0; have e1 := t_9.cell1; have e2 := t_9.frozen 0; have e3 := t_9.frozen 1; clear t_9; have hn9 : qAg w9 (b12) := Fr.o.noInt; obtain ⟨w10, hw⟩ := eX ((w9.setCell ⟨b12, 0, none⟩ (.bool s_r)).setCell ⟨b12, 1, none⟩ (.slice a_r n_r c_r)); have hw2 : st2 w9 (b12) (0) (1) s_r a_r n_r c_r = w10 := hw; replace Fr := hZ (Bx.put Fr.o Vr.o); rw [hw2] at Fr; replace Vx := hZ (Vx.o.offe hw2 hn9); replace Vy := hZ (Vy.o.offe hw2 hn9); replace Vq := hZ (Vq.o.offe hw2 hn9); replace Vr := hZ (Vr.o.offe hw2 hn9); replace Fq := hZ (Fq.o.offe hw2 hn9 (by omega)); replace HJ := hZ (bO hw2 HJ.o (by have := HJs.o; omega)); clear hw2 hn9; refine lU 19 fun K hK => ?_; go_simp
      try rw [hw]
      refine hK.out _ _ ?_; clear hK K
      try simp only [Act.put, sX1, sX2, sX3]
      clear hw e0 e1 e2 e3; refine pU 20 13 ?_; refine dU ?_; clear hHeld; refine qAp ⟨_, _, _, _, _, _, _, _, _, _, _, _, _, _, _, _, _, _, by first | rfl | (simp only [sX1, sX2, sX3]; rfl), Fq, Fr, HJ, hZ (by have := HJs.o; omega)⟩
     ·skip
      go_simp; obtain ⟨w7, hw⟩ := eX (w6.alloc (.cells #[.bool false, .slice none 0 0] 58)); have hB := aB hw; obtain ⟨b12, hb⟩ := eX w6.heap.size; have Fr' : Hid (Bx w7 b12 0) := hZ (by rw [<- hw, <- hb]; exact Bx.new (qAu _)); have hge_b12 : w5.heap.size <= b12 := by rw [<- hb]; exact HBr.o.size
      replace HBr := oT HBr hB; replace Vx := Vx.b hB; replace Vy := Vy.b hB; replace Vq := Vq.b hB; replace Vr := Vr.b hB; replace HJ := bT HJ hB; clear hB; have Fr := Fr'; clear Fr'; rw [hw]
      try rw [hb]
      clear hw hb; refine hK.out _ _ HBr.o (fun hHeld => ?_); clear hK K
      try simp only [Act.put, sX1, sX2, sX3]
      refine eU 16 fun K hK => ?_; go_simp; obtain ⟨w8, hw⟩ := eX (w7.alloc (.cells #[.bool false, .slice none 0 0] 58)); have hB := aB hw; obtain ⟨b11, hb⟩ := eX w7.heap.size; have Fq' : Hid (Bx w8 b11 0) := hZ (by rw [<- hw, <- hb]; exact Bx.new (qAu _)); have hge_b11 : w5.heap.size <= b11 := by rw [<- hb]; exact HBr.o.size
      have hne_b12_b11 : b12 < b11 := by rw [<- hb]; exact Fr.o.lt
      replace HBr := oT HBr hB; replace Vx := Vx.b hB; replace Vy := Vy.b hB; replace Vq := Vq.b hB; replace Vr := Vr.b hB; replace Fr := Fr.b hB; replace HJ := bT HJ hB; clear hB; have Fq := Fq'; clear Fq'; rw [hw]
      try rw [hb]
      clear hw hb; refine hK.out _ _ HBr.o (fun hHeld => ?_); clear hK K
      try simp only [Act.put, sX1, sX2, sX3]
      obtain ⟨s_9, a_9, n_9, c_9, t_9, -⟩ := Fq.o; have e0 := t_9.cell0; have e1 := t_9.cell1; have e2 := t_9.frozen 0; have e3 := t_9.frozen 1; clear t_9; have hn9 : qAg w8 (b11) := Fq.o.noInt; obtain ⟨w9, hw⟩ := eX ((w8.setCell ⟨b11, 0, none⟩ (.bool s_q)).setCell ⟨b11, 1, none⟩ (.slice a_q n_q c_q)); have hw2 : st2 w8 (b11) (0) (1) s_q a_q n_q c_q = w9 := hw; replace Fq := hZ (Bx.put Fq.o Vq.o); rw [hw2] at Fq; replace Vx := hZ (Vx.o.offe hw2 hn9); replace Vy := hZ (Vy.o.offe hw2 hn9); replace Vq := hZ (Vq.o.offe hw2 hn9); replace Vr := hZ (Vr.o.offe hw2 hn9); replace Fr := hZ (Fr.o.offe hw2 hn9 (by omega)); replace HJ := hZ (bO hw2 HJ.o (by have := HJs.o; omega)); clear hw2 hn9; replace HBr := hZ (HBr.o.offs hw hge_b11); refine eU 18 fun K hK => ?_; go_simp
      try rw [hw]
      refine hK.out _ _ HBr.o (fun hHeld => ?_); clear hK K
      try simp only [Act.put, sX1, sX2, sX3]
      clear hw e0 e1 e2 e3; obtain ⟨s_9, a_9, n_9, c_9, t_9, -⟩ := Fr.o; have e0 := t_9.cell0; have e1 := t_9.cell1; have e2 := t_9.frozen 0; have e3 := t_9.frozen 1; clear t_9; have hn9 : qAg w9 (b12) := Fr.o.noInt; obtain ⟨w10, hw⟩ := eX ((w9.setCell ⟨b12, 0, none⟩ (.bool s_r)).setCell ⟨b12, 1, none⟩ (.slice a_r n_r c_r)); have hw2 : st2 w9 (b12) (0) (1) s_r a_r n_r c_r = w10 := hw; replace Fr := hZ (Bx.put Fr.o Vr.o); rw [hw2] at Fr; replace Vx := hZ (Vx.o.offe hw2 hn9); replace Vy := hZ (Vy.o.offe hw2 hn9); replace Vq := hZ (Vq.o.offe hw2 hn9); replace Vr := hZ (Vr.o.offe hw2 hn9); replace Fq := hZ (Fq.o.offe hw2 hn9 (by omega)); replace HJ := hZ (bO hw2 HJ.o (by have := HJs.o; omega)); clear hw2 hn9; refine lU 19 fun K hK => ?_; go_simp
      try rw [hw]
      refine hK.out _ _ ?_; clear hK K
      try simp only [Act.put, sX1, sX2, sX3]
      clear hw e0 e1 e2 e3; refine pU 20 13 ?_; refine dU ?_; clear hHeld; refine qAp ⟨_, _, _, _, _, _, _, _, _, _, _, _, _, _, _, _, _, _, by first | rfl | (simp only [sX1, sX2, sX3]; rfl), Fq, Fr, HJ, hZ (by have := HJs.o; omega)⟩
    ·skip
     go_simp; obtain ⟨w6, hw⟩ := eX (w5.alloc (.cells #[.bool false, .slice none 0 0] 58)); have hB := aB hw; obtain ⟨b11, hb⟩ := eX w5.heap.size; have Fq' : Hid (Bx w6 b11 0) := hZ (by rw [<- hw, <- hb]; exact Bx.new (qAu _)); have hge_b11 : w5.heap.size <= b11 := by rw [<- hb]; exact HBr.o.size
     replace HBr := oT HBr hB; replace Vx := Vx.b hB; replace Vy := Vy.b hB; replace HJ := bT HJ hB; clear hB; have Fq := Fq'; clear Fq'; rw [hw]
     try rw [hb]
     clear hw hb; refine hK.out _ _ HBr.o (fun hHeld => ?_); clear hK K
     try simp only [Act.put, sX1, sX2, sX3]
     refine qIj [11, 17] (by kernel_rfl) (by simp) ⟨qA3 11 rfl (fun K hK => ?_), qA3 17 rfl (fun K hK => ?_), trivial⟩
     ·skip
      go_simp; refine (qGV (w := w6) Vx.o Vy.o Sx.o Sy.o (by omega) (by omega) (by omega)).mono ?_; rintro e w7 ⟨s_q, a_q, n_q, c_q, s_r, a_r, n_r, c_r, rfl, h_q, h_r, hB⟩; have Vq := hZ h_q; have Vr := hZ h_r; replace HBr := oT HBr hB; replace Vx := Vx.b hB; replace Vy := Vy.b hB; replace Fq := Fq.b hB; replace HJ := bT HJ hB; clear hB; clear h_q h_r; refine hK.out _ _ HBr.o (fun hHeld => ?_); clear hK K
      try simp only [Act.put, sX1, sX2, sX3]
      refine pU 12 48 ?_; refine pU 13 61 ?_; refine pU 14 62 ?_; refine pU 15 63 ?_; refine eU 17 fun K hK => ?_; go_simp; obtain ⟨w8, hw⟩ := eX (w7.alloc (.cells #[.bool false, .slice none 0 0] 58)); have hB := aB hw; obtain ⟨b12, hb⟩ := eX w7.heap.size; have Fr' : Hid (Bx w8 b12 0) := hZ (by rw [<- hw, <- hb]; exact Bx.new (qAu _)); have hge_b12 : w5.heap.size <= b12 := by rw [<- hb]; exact HBr.o.size
      have hne_b11_b12 : b11 < b12 := by rw [<- hb]; exact Fq.o.lt
      replace HBr := oT HBr hB; replace Vx := Vx.b hB; replace Vy := Vy.b hB; replace Fq := Fq.b hB; replace Vq := Vq.b hB; replace Vr := Vr.b hB; replace HJ := bT HJ hB; clear hB; have Fr := Fr'; clear Fr'; rw [hw]
      try rw [hb]
      clear hw hb; refine hK.out _ _ HBr.o (fun hHeld => ?_); clear hK K
      try simp only [Act.put, sX1, sX2, sX3]
      obtain ⟨s_9, a_9, n_9, c_9, t_9, -⟩ := Fq.o; have e0 := t_9.cell0; have e1 := t_9.cell1; have e2 := t_9.frozen 0; have e3 := t_9.frozen 1; clear t_9; have hn9 : qAg w8 (b11) := Fq.o.noInt; obtain ⟨w9, hw⟩ := eX ((w8.setCell ⟨b11, 0, none⟩ (.bool s_q)).setCell ⟨b11, 1, none⟩ (.slice a_q n_q c_q)); have hw2 : st2 w8 (b11) (0) (1) s_q a_q n_q c_q = w9 := hw; replace Fq := hZ (Bx.put Fq.o Vq.o); rw [hw2] at Fq; replace Vx := hZ (Vx.o.offe hw2 hn9); replace Vy := hZ (Vy.o.offe hw2 hn9); replace Vq := hZ (Vq.o.offe hw2 hn9); replace Vr := hZ (Vr.o.offe hw2 hn9); replace Fr := hZ (Fr.o.offe hw2 hn9 (by omega)); replace HJ := hZ (bO hw2 HJ.o (by have := HJs.o; omega)); clear hw2 hn9; replace HBr := hZ (HBr.o.offs hw hge_b11); refine eU 18 fun K hK => ?_; go_simp
      try rw [hw]
      refine hK.out _ _ HBr.o (fun hHeld => ?_); clear hK K
      try simp only [Act.put, sX1, sX2, sX3]
      clear hw e0 e1 e2 e3; obtain ⟨s_9, a_9, n_9, c_9, t_9, -⟩ := Fr.o; have e0 := t_9.cell0; have e1 := t_9.cell1; have e2 := t_9.frozen 0; have e3 := t_9.frozen 1; clear t_9; have hn9 : qAg w9 (b12) := Fr.o.noInt; obtain ⟨w10, hw⟩ := eX ((w9.setCell ⟨b12, 0, none⟩ (.bool s_r)).setCell ⟨b12, 1, none⟩ (.slice a_r n_r c_r)); have hw2 : st2 w9 (b12) (0) (1) s_r a_r n_r c_r = w10 := hw; replace Fr := hZ (Bx.put Fr.o Vr.o); rw [hw2] at Fr; replace Vx := hZ (Vx.o.offe hw2 hn9); replace Vy := hZ (Vy.o.offe hw2 hn9); replace Fq := hZ (Fq.o.offe hw2 hn9 (by omega)); replace Vq := hZ (Vq.o.offe hw2 hn9); replace Vr := hZ (Vr.o.offe hw2 hn9); replace HJ := hZ (bO hw2 HJ.o (by have := HJs.o; omega)); clear hw2 hn9; refine lU 19 fun K hK => ?_; go_simp
      try rw [hw]
      refine hK.out _ _ ?_; clear hK K
      try simp only [Act.put, sX1, sX2, sX3]
      clear hw e0 e1 e2 e3; refine pU 20 13 ?_; refine dU ?_; clear hHeld; refine qAp ⟨_, _, _, _, _, _, _, _, _, _, _, _, _, _, _, _, _, _, by first | rfl | (simp only [sX1, sX2, sX3]; rfl), Fq, Fr, HJ, hZ (by have := HJs.o; omega)⟩
     ·skip
      go_simp; obtain ⟨w7, hw⟩ := eX (w6.alloc (.cells #[.bool false, .slice none 0 0] 58)); have hB := aB hw; obtain ⟨b12, hb⟩ := eX w6.heap.size; have Fr' : Hid (Bx w7 b12 0) := hZ (by rw [<- hw, <- hb]; exact Bx.new (qAu _)); have hge_b12 : w5.heap.size <= b12 := by rw [<- hb]; exact HBr.o.size
      have hne_b11_b12 : b11 < b12 := by rw [<- hb]; exact Fq.o.lt
      replace HBr := oT HBr hB; replace Vx := Vx.b hB; replace Vy := Vy.b hB; replace Fq := Fq.b hB; replace HJ := bT HJ hB; clear hB; have Fr := Fr'; clear Fr'; rw [hw]
      try rw [hb]
      clear hw hb; refine hK.out _ _ HBr.o (fun hHeld => ?_); clear hK K
      try simp only [Act.put, sX1, sX2, sX3]
      refine eU 11 fun K hK => ?_; go_simp; refine (qGV (w := w7) Vx.o Vy.o Sx.o Sy.o (by omega) (by omega) (by omega)).mono ?_; rintro e w8 ⟨s_q, a_q, n_q, c_q, s_r, a_r, n_r, c_r, rfl, h_q, h_r, hB⟩; have Vq := hZ h_q; have Vr := hZ h_r; replace HBr := oT HBr hB; replace Vx := Vx.b hB; replace Vy := Vy.b hB; replace Fq := Fq.b hB; replace Fr := Fr.b hB; replace HJ := bT HJ hB; clear hB; clear h_q h_r; refine hK.out _ _ HBr.o (fun hHeld => ?_); clear hK K
      try simp only [Act.put, sX1, sX2, sX3]
      refine pU 12 48 ?_; refine pU 13 61 ?_; refine pU 14 62 ?_; refine pU 15 63 ?_; obtain ⟨s_9, a_9, n_9, c_9, t_9, -⟩ := Fq.o; have e0 := t_9.cell0; have e1 := t_9.cell1; have e2 := t_9.frozen 0; have e3 := t_9.frozen 1; clear t_9; have hn9 : qAg w8 (b11) := Fq.o.noInt; obtain ⟨w9, hw⟩ := eX ((w8.setCell ⟨b11, 0, none⟩ (.bool s_q)).setCell ⟨b11, 1, none⟩ (.slice a_q n_q c_q)); have hw2 : st2 w8 (b11) (0) (1) s_q a_q n_q c_q = w9 := hw; replace Fq := hZ (Bx.put Fq.o Vq.o); rw [hw2] at Fq; replace Vx := hZ (Vx.o.offe hw2 hn9); replace Vy := hZ (Vy.o.offe hw2 hn9); replace Fr := hZ (Fr.o.offe hw2 hn9 (by omega)); replace Vq := hZ (Vq.o.offe hw2 hn9); replace Vr := hZ (Vr.o.offe hw2 hn9); replace HJ := hZ (bO hw2 HJ.o (by have := HJs.o; omega)); clear hw2 hn9; replace HBr := hZ (HBr.o.offs hw hge_b11); refine eU 18 fun K hK => ?_; go_simp
      try rw [hw]
      refine hK.out _ _ HBr.o (fun hHeld => ?_); clear hK K
      try simp only [Act.put, sX1, sX2, sX3]
      clear hw e0 e1 e2 e3; obtain ⟨s_9, a_9, n_9, c_9, t_9, -⟩ := Fr.o; have e0 := t_9.cell0; have e1 := t_9.cell1; have e2 := t_9.frozen 0; have e3 := t_9.frozen 1; clear t_9; have hn9 : qAg w9 (b12) := Fr.o.noInt; obtain ⟨w10, hw⟩ := eX ((w9.setCell ⟨b12, 0, none⟩ (.bool s_r)).setCell ⟨b12, 1, none⟩ (.slice a_r n_r c_r)); have hw2 : st2 w9 (b12) (0) (1) s_r a_r n_r c_r = w10 := hw; replace Fr := hZ (Bx.put Fr.o Vr.o); rw [hw2] at Fr; replace Vx := hZ (Vx.o.offe hw2 hn9); replace Vy := hZ (Vy.o.offe hw2 hn9); replace Fq := hZ (Fq.o.offe hw2 hn9 (by omega)); replace Vq := hZ (Vq.o.offe hw2 hn9); replace Vr := hZ (Vr.o.offe hw2 hn9); replace HJ := hZ (bO hw2 HJ.o (by have := HJs.o; omega)); clear hw2 hn9; refine lU 19 fun K hK => ?_; go_simp
      try rw [hw]
      refine hK.out _ _ ?_; clear hK K
      try simp only [Act.put, sX1, sX2, sX3]
      clear hw e0 e1 e2 e3; refine pU 20 13 ?_; refine dU ?_; clear hHeld; refine qAp ⟨_, _, _, _, _, _, _, _, _, _, _, _, _, _, _, _, _, _, by first | rfl | (simp only [sX1, sX2, sX3]; rfl), Fq, Fr, HJ, hZ (by have := HJs.o; omega)⟩
    ·skip
     go_simp; obtain ⟨w6, hw⟩ := eX (w5.alloc (.cells #[.bool false, .slice none 0 0] 58)); have hB := aB hw; obtain ⟨b12, hb⟩ := eX w5.heap.size; have Fr' : Hid (Bx w6 b12 0) := hZ (by rw [<- hw, <- hb]; exact Bx.new (qAu _)); have hge_b12 : w5.heap.size <= b12 := by rw [<- hb]; exact HBr.o.size
     replace HBr := oT HBr hB; replace Vx := Vx.b hB; replace Vy := Vy.b hB; replace HJ := bT HJ hB; clear hB; have Fr := Fr'; clear Fr'; rw [hw]
     try rw [hb]
     clear hw hb; refine hK.out _ _ HBr.o (fun hHeld => ?_); clear hK K
     try simp only [Act.put, sX1, sX2, sX3]
     refine qIj [11, 16] (by kernel_rfl) (by simp) ⟨qA3 11 rfl (fun K hK => ?_), qA3 16 rfl (fun K hK => ?_), trivial⟩
     ·skip
      go_simp; refine (qGV (w := w6) Vx.o Vy.o Sx.o Sy.o (by omega) (by omega) (by omega)).mono ?_; rintro e w7 ⟨s_q, a_q, n_q, c_q, s_r, a_r, n_r, c_r, rfl, h_q, h_r, hB⟩; have Vq := hZ h_q; have Vr := hZ h_r; replace HBr := oT HBr hB; replace Vx := Vx.b hB; replace Vy := Vy.b hB; replace Fr := Fr.b hB; replace HJ := bT HJ hB; clear hB; clear h_q h_r; refine hK.out _ _ HBr.o (fun hHeld => ?_); clear hK K
      try simp only [Act.put, sX1, sX2, sX3]
      refine pU 12 48 ?_; refine pU 13 61 ?_; refine pU 14 62 ?_; refine pU 15 63 ?_; refine eU 16 fun K hK => ?_; go_simp; obtain ⟨w8, hw⟩ := eX (w7.alloc (.cells #[.bool false, .slice none 0 0] 58)); have hB := aB hw; obtain ⟨b11, hb⟩ := eX w7.heap.size; have Fq' : Hid (Bx w8 b11 0) := hZ (by rw [<- hw, <- hb]; exact Bx.new (qAu _)); have hge_b11 : w5.heap.size <= b11 := by rw [<- hb]; exact HBr.o.size
      have hne_b12_b11 : b12 < b11 := by rw [<- hb]; exact Fr.o.lt
      replace HBr := oT HBr hB; replace Vx := Vx.b hB; replace Vy := Vy.b hB; replace Fr := Fr.b hB; replace Vq := Vq.b hB; replace Vr := Vr.b hB; replace HJ := bT HJ hB; clear hB; have Fq := Fq'; clear Fq'; rw [hw]
      try rw [hb]
      clear hw hb; refine hK.out _ _ HBr.o (fun hHeld => ?_); clear hK K
      try simp only [Act.put, sX1, sX2, sX3]
      obtain ⟨s_9, a_9, n_9, c_9, t_9, -⟩ := Fq.o; have e0 := t_9.cell0; have e1 := t_9.cell1; have e2 := t_9.frozen 0; have e3 := t_9.frozen 1; clear t_9; have hn9 : qAg w8 (b11) := Fq.o.noInt; obtain ⟨w9, hw⟩ := eX ((w8.setCell ⟨b11, 0, none⟩ (.bool s_q)).setCell ⟨b11, 1, none⟩ (.slice a_q n_q c_q)); have hw2 : st2 w8 (b11) (0) (1) s_q a_q n_q c_q = w9 := hw; replace Fq := hZ (Bx.put Fq.o Vq.o); rw [hw2] at Fq; replace Vx := hZ (Vx.o.offe hw2 hn9); replace Vy := hZ (Vy.o.offe hw2 hn9); replace Fr := hZ (Fr.o.offe hw2 hn9 (by omega)); replace Vq := hZ (Vq.o.offe hw2 hn9); replace Vr := hZ (Vr.o.offe hw2 hn9); replace HJ := hZ (bO hw2 HJ.o (by have := HJs.o; omega)); clear hw2 hn9; replace HBr := hZ (HBr.o.offs hw hge_b11); refine eU 18 fun K hK => ?_; go_simp
      try rw [hw]
      refine hK.out _ _ HBr.o (fun hHeld => ?_); clear hK K
      try simp only [Act.put, sX1, sX2, sX3]
      clear hw e0 e1 e2 e3; obtain ⟨s_9, a_9, n_9, c_9, t_9, -⟩ := Fr.o; have e0 := t_9.cell0; have e1 := t_9.cell1; have e2 := t_9.frozen 0; have e3 := t_9.frozen 1; clear t_9; have hn9 : qAg w9 (b12) := Fr.o.noInt; obtain ⟨w10, hw⟩ := eX ((w9.setCell ⟨b12, 0, none⟩ (.bool s_r)).setCell ⟨b12, 1, none⟩ (.slice a_r n_r c_r)); have hw2 : st2 w9 (b12) (0) (1) s_r a_r n_r c_r = w10 := hw; replace Fr := hZ (Bx.put Fr.o Vr.o); rw [hw2] at Fr; replace Vx := hZ (Vx.o.offe hw2 hn9); replace Vy := hZ (Vy.o.offe hw2 hn9); replace Vq := hZ (Vq.o.offe hw2 hn9); replace Vr := hZ (Vr.o.offe hw2 hn9); replace Fq := hZ (Fq.o.offe hw2 hn9 (by omega)); replace HJ := hZ (bO hw2 HJ.o (by have := HJs.o; omega)); clear hw2 hn9; refine lU 19 fun K hK => ?_; go_simp
      try rw [hw]
      refine hK.out _ _ ?_; clear hK K
      try simp only [Act.put, sX1, sX2, sX3]
      clear hw e0 e1 e2 e3; refine pU 20 13 ?_; refine dU ?_; clear hHeld; refine qAp ⟨_, _, _, _, _, _, _, _, _, _, _, _, _, _, _, _, _, _, by first | rfl | (simp only [sX1, sX2, sX3]; rfl), Fq, Fr, HJ, hZ (by have := HJs.o; omega)⟩
     ·skip
      go_simp; obtain ⟨w7, hw⟩ := eX (w6.alloc (.cells #[.bool false, .slice none 0 0] 58)); have hB := aB hw; obtain ⟨b11, hb⟩ := eX w6.heap.size; have Fq' : Hid (Bx w7 b11 0) := hZ (by rw [<- hw, <- hb]; exact Bx.new (qAu _)); have hge_b11 : w5.heap.size <= b11 := by rw [<- hb]; exact HBr.o.size
      have hne_b12_b11 : b12 < b11 := by rw [<- hb]; exact Fr.o.lt
      replace HBr := oT HBr hB; replace Vx := Vx.b hB; replace Vy := Vy.b hB; replace Fr := Fr.b hB; replace HJ := bT HJ hB; clear hB; have Fq := Fq'; clear Fq'; rw [hw]
      try rw [hb]
      clear hw hb; refine hK.out _ _ HBr.o (fun hHeld => ?_); clear hK K
      try simp only [Act.put, sX1, sX2, sX3]
      refine eU 11 fun K hK => ?_; go_simp; refine (qGV (w := w7) Vx.o Vy.o Sx.o Sy.o (by omega) (by omega) (by omega)).mono ?_; rintro e w8 ⟨s_q, a_q, n_q, c_q, s_r, a_r, n_r, c_r, rfl, h_q, h_r, hB⟩; have Vq := hZ h_q; have Vr := hZ h_r; replace HBr := oT HBr hB; replace Vx := Vx.b hB; replace Vy := Vy.b hB; replace Fr := Fr.b hB; replace Fq := Fq.b hB; replace HJ := bT HJ hB; clear hB; clear h_q h_r; refine hK.out _ _ HBr.o (fun hHeld => ?_); clear hK K
      try simp only [Act.put, sX1, sX2, sX3]
      refine pU 12 48 ?_; refine pU 13 61 ?_; refine pU 14 62 ?_; refine pU 15 63 ?_; obtain ⟨s_9, a_9, n_9, c_9, t_9, -⟩ := Fq.o; have e0 := t_9.cell0; have e1 := t_9.cell1; have e2 := t_9.frozen 0; have e3 := t_9.frozen 1; clear t_9; have hn9 : qAg w8 (b11) := Fq.o.noInt; obtain ⟨w9, hw⟩ := eX ((w8.setCell ⟨b11, 0, none⟩ (.bool s_q)).setCell ⟨b11, 1, none⟩ (.slice a_q n_q c_q)); have hw2 : st2 w8 (b11) (0) (1) s_q a_q n_q c_q = w9 := hw; replace Fq := hZ (Bx.put Fq.o Vq.o); rw [hw2] at Fq; replace Vx := hZ (Vx.o.offe hw2 hn9); replace Vy := hZ (Vy.o.offe hw2 hn9); replace Fr := hZ (Fr.o.offe hw2 hn9 (by omega)); replace Vq := hZ (Vq.o.offe hw2 hn9); replace Vr := hZ (Vr.o.offe hw2 hn9); replace HJ := hZ (bO hw2 HJ.o (by have := HJs.o; omega)); clear hw2 hn9; replace HBr := hZ (HBr.o.offs hw hge_b11); refine eU 18 fun K hK => ?_; go_simp
      try rw [hw]
      refine hK.out _ _ HBr.o (fun hHeld => ?_); clear hK K
      try simp only [Act.put, sX1, sX2, sX3]
      clear hw e0 e1 e2 e3; obtain ⟨s_9, a_9, n_9, c_9, t_9, -⟩ := Fr.o; have e0 := t_9.cell0; have e1 := t_9.cell1; have e2 := t_9.frozen 0; have e3 := t_9.frozen 1; clear t_9; have hn9 : qAg w9 (b12) := Fr.o.noInt; obtain ⟨w10, hw⟩ := eX ((w9.setCell ⟨b12, 0, none⟩ (.bool s_r)).setCell ⟨b12, 1, none⟩ (.slice a_r n_r c_r)); have hw2 : st2 w9 (b12) (0) (1) s_r a_r n_r c_r = w10 := hw; replace Fr := hZ (Bx.put Fr.o Vr.o); rw [hw2] at Fr; replace Vx := hZ (Vx.o.offe hw2 hn9); replace Vy := hZ (Vy.o.offe hw2 hn9); replace Fq := hZ (Fq.o.offe hw2 hn9 (by omega)); replace Vq := hZ (Vq.o.offe hw2 hn9); replace Vr := hZ (Vr.o.offe hw2 hn9); replace HJ := hZ (bO hw2 HJ.o (by have := HJs.o; omega)); clear hw2 hn9; refine lU 19 fun K hK => ?_; go_simp
      try rw [hw]
      refine hK.out _ _ ?_; clear hK K
      try simp only [Act.put, sX1, sX2, sX3]
      clear hw e0 e1 e2 e3; refine pU 20 13 ?_; refine dU ?_; clear hHeld; refine qAp ⟨_, _, _, _, _, _, _, _, _, _, _, _, _, _, _, _, _, _, by first | rfl | (simp only [sX1, sX2, sX3]; rfl), Fq, Fr, HJ, hZ (by have := HJs.o; omega)⟩
   ·skip
    rintro a w5 ⟨v49, v50, v51, v52, v53, v54, v55, v56, v57, v58, v59, v60, v48, v61, v62, v63, b11, b12, rfl, Fq, Fr, HJ, Hxy⟩; simp only [sX1, sX2, sX3]; have hB := HJ.o; have Hbb : Hid (b11 ≠ b12 /\ g < b11 /\ g < b12) := hZ (by have h1 := Hxy.o; have h2 := Rr.o.lt; omega); clear HJ Hxy; replace Rr := Rr.b hB; replace RS := RS.b hB; replace HP := HP.b hB; replace HB := bT HB hB; clear hB; obtain ⟨qq, hqq⟩ := eX (x / y); obtain ⟨rr, hrr⟩ := eX (x % y); rw [hqq] at Fq; rw [hrr] at Fr HFl; have Hqq := hZ hqq; have Hrr := hZ hrr; have Sq : Hid (Sz (66 * t + 65) qq) := hZ (hqq ▸ Sx.o.div (by omega)); have Sr : Hid (Sz 64 rr) := hZ (hrr ▸ Sy.o.mod (by omega)); clear hqq hrr; obtain ⟨s_r, a_r, n_r, c_r, t_r, h_r⟩ := Fr.o; have d0r := t_r.cell0; have d1r := t_r.cell1; have Vr := hZ h_r; clear t_r h_r
    go_wp2_with fail
    clear d0r d1r; by_cases hr0 : rr = 0
    ·skip
     refine (qAB (w := w5) Vr.o Sr.o (by omega)).mono ?_; rintro e w6 ⟨he, hB⟩; rw [show qAK rr 0 = 0 by rw [hr0]; exact qAS 0] at he; subst he; replace Rr := Rr.b hB; replace RS := RS.b hB; replace HP := HP.b hB; replace Fq := Fq.b hB; replace Fr := Fr.b hB; replace Vr := Vr.b hB; replace HB := bT HB hB; clear hB; clear Vr Fr
     go_wp2_with fail
     have HS := hZ (qFi.start (q := qq) Hlen.o Hlow.o); have SW : Hid (∀ x ∈ rest, Sz (66 * (t + 1) + 64) x) := hZ (fun x hx => (SV.o x hx).mono (by omega))
     go_loopw [14] (fun i wr => ∃ (k : Nat) (rest2 : List Int), p <= k /\ k <= n /\ i = .int .i64 k /\ Hid (qFi qq n p k row rest rest2) /\ Hid (∀ x ∈ rest2, Sz (66 * (t + 1) + 64) x) /\ Hid (qAE wr g rest2) /\ Hid (qB7 wr R l n b) /\ Hid (Bx wr b11 qq) /\ Hid (qAm wr (.slice (some ⟨bp, 0, none⟩) b.length cp) (b.map (fun r => (pv r : Int)))) /\ Hid (Below w0.heap.size w0 wr)) (fun i _ => n - (intOf i).toNat)
     case atStart => exact ⟨p, rest, by omega, by omega, rfl, HS, SW, Rr, RS, Fq, HP, HB⟩
     case round =>
      clear HS SW Rr RS Fq HP HB; obtain ⟨k, rest2, hpk, hk, rfl, HS, SW, Rr, RS, Fq, HP, HB⟩ := hrel; obtain ⟨w6, rfl⟩ := eY wr; by_cases hkn : k < n
      ·skip
       have k1 : (0 : Int) <= (k : Int) := by omega
       have k2 : (k : Int) < (n : Int) := by omega
       have Hkr : Hid (k < rest2.length) := hZ (by rw [HS.o.len]; exact hkn); have Hk0 : Hid (k < rest.length) := hZ (by rw [Hlen.o]; exact hkn); have Hkrow : Hid (k < row.length) := hZ (by rw [Hrl.o]; exact hkn)
       go_wp2_with fail
       obtain ⟨w7, hwd⟩ := eX w6.drew; have hB := dB hwd; replace Rr := Rr.b hB; replace RS := RS.b hB; replace Fq := Fq.b hB; replace HP := HP.b hB; replace HB := bT HB hB; clear hB; have HBr : Hid (qAb (fun b => False) w7 w7) := hZ (qAb.refl _ _); refine qAs [17] (fun w' => qAb (fun b => False) w7 w') (by kernel_rfl) (by rw [hwd]; exact qAb.refl _ _) (fun hHeld => ?_); rw [hwd] at hHeld ⊢; clear hwd; have e0 := RS.o.get t htl2; rw [Hgr.o, Hcr.o] at e0; have Rp := hZ (RP.o _ RS.o); obtain ⟨s_u, a_u, n_u, c_u, d0u, d1u, h_u⟩ := Rr.o.get k Hkr.o; obtain ⟨u, hu⟩ := eX (rest2[k]'Hkr.o); rw [hu] at h_u; have Vu := hZ h_u; have Hu := hZ hu; have Su : Hid (Sz (66 * t + 64) u) := hZ (by have h9 := HS.o.left k (Nat.le_refl _); rw [qAj Hkr.o, qAj Hk0.o, hu] at h9; rw [h9]; exact SV.o _ (List.getElem_mem _)); clear h_u hu; obtain ⟨s_v, a_v, n_v, c_v, d0v, d1v, h_v⟩ := Rp.o.get k Hkrow.o; obtain ⟨vz, hvz⟩ := eX (row[k]'Hkrow.o); rw [hvz] at h_v; have Vv := hZ h_v; have Hvz := hZ hvz; have Sv : Hid (Sz 64 vz) := hZ (hvz ▸ Srow.o _ (List.getElem_mem _)); clear h_v hvz; obtain ⟨s_q, a_q, n_q, c_q, t_q, h_q⟩ := Fq.o; have d0q := t_q.cell0; have d1q := t_q.cell1; have Vq := hZ h_q; clear t_q h_q; refine pU 0 74 ?_; refine pU 1 75 ?_; refine pU 2 76 ?_; refine pU 3 77 ?_; refine pU 4 78 ?_; refine tV 5 79 (cF d0u Rr.o.lt) (cF d1u Rr.o.lt) ?_; refine tV 6 80 (cF d0q Fq.o.lt) (cF d1q Fq.o.lt) ?_; refine pU 7 81 ?_; refine pU 8 82 ?_; refine pU 9 83 ?_; refine tU 10 84 (cF e0 RS.o.lt) ?_; refine pU 11 85 ?_; refine pU 12 86 ?_; refine tV 13 87 (cF d0v Rp.o.lt) (cF d1v Rp.o.lt) ?_; clear e0 d0u d1u d0v d1v Rp; clear d0q d1q
       skip
       refine eU 14 fun K hK => ?_; go_simp; refine (qBh (w := w7) Vq.o Vv.o Sq.o Sv.o (by omega)).mono ?_; rintro e w8 ⟨s_s, a_s, n_s, c_s, rfl, h_s, hB⟩; have Vs := hZ h_s; replace HBr := oT HBr hB; replace Rr := Rr.b hB; replace RS := RS.b hB; replace Fq := Fq.b hB; replace HP := HP.b hB; replace Vu := Vu.b hB; replace Vv := Vv.b hB; replace Vq := Vq.b hB; replace HB := bT HB hB; clear hB; clear h_s; refine hK.out _ _ HBr.o (fun hHeld => ?_); clear hK K
       try simp only [Act.put, sX1, sX2, sX3]
       refine eU 15 fun K hK => ?_; go_simp; refine (qCR (w := w8) (k := 66 * t + 129) Vu.o Vs.o (Su.o.mono (by omega)) ((Sq.o.mul Sv.o).mono (by omega)) (by omega)).mono ?_; rintro e w9 ⟨s_z, a_z, n_z, c_z, rfl, h_z, hB⟩; have Vz := hZ h_z; replace HBr := oT HBr hB; replace Rr := Rr.b hB; replace RS := RS.b hB; replace Fq := Fq.b hB; replace HP := HP.b hB; replace Vu := Vu.b hB; replace Vv := Vv.b hB; replace Vq := Vq.b hB; replace Vs := Vs.b hB; replace HB := bT HB hB; clear hB; clear h_z; refine hK.out _ _ HBr.o (fun hHeld => ?_); clear hK K
       try simp only [Act.put, sX1, sX2, sX3]
       refine pU 16 90 ?_; obtain ⟨s_9, a_9, n_9, c_9, e0, e1, -⟩ := Rr.o.get (k) Hkr.o; have e2 := Rr.o.frozen (k * 2); have e3 := Rr.o.frozen (k * 2 + 1); have hn9 : qAg w9 (g) := Rr.o.noInt; obtain ⟨w10, hw⟩ := eX ((w9.setCell ⟨g, k * 2, none⟩ (.bool s_z)).setCell ⟨g, k * 2 + 1, none⟩ (.slice a_z n_z c_z)); have hw2 : st2 w9 (g) (k * 2) (k * 2 + 1) s_z a_z n_z c_z = w10 := hw; replace Rr := hZ (qAE.put' Rr.o (k) Hkr.o Vz.o); rw [hw2] at Rr; replace RS := hZ (qB7.off9 (g := g) (o1 := k * 2) (o2 := k * 2 + 1) (s := s_z) (a := a_z) (n' := n_z) (c := c_z) RS.o hn9 ⟨by have := HGR.o.1; omega, fun i hi => by have := HGR.o.2 i hi; omega⟩); rw [hw2] at RS; replace Fq := hZ (Fq.o.offe hw2 hn9 (by have := Hbb.o; omega)); replace HP := hZ (qJ2 (g := g) (o1 := k * 2) (o2 := k * 2 + 1) (s := s_z) (a := a_z) (n' := n_z) (c' := c_z) HP.o (by have := HBp.o; omega)); rw [hw2] at HP; replace Vu := hZ (Vu.o.offe hw2 hn9); replace Vv := hZ (Vv.o.offe hw2 hn9); replace Vq := hZ (Vq.o.offe hw2 hn9); replace Vs := hZ (Vs.o.offe hw2 hn9); replace Vz := hZ (Vz.o.offe hw2 hn9); replace HB := hZ (bO hw2 HB.o HG0.o); clear hw2 hn9; refine lU 17 fun K hK => ?_; go_simp
       try rw [hw]
       refine hK.out _ _ ?_; clear hK K
       try simp only [Act.put, sX1, sX2, sX3]
       clear hw e0 e1 e2 e3; refine dU ?_; clear hHeld
       go_wp2_with fail
       go_roundw
       case rel => exact ⟨k + 1, rest2.set k (u - qq * vz), by omega, by omega, by go_num, hZ (HS.o.step hkn (by rw [qAj Hkr.o, qAj Hkrow.o, Hu.o, Hvz.o])), hZ (fun x hx => by rcases List.mem_or_eq_of_mem_set hx with h9 | h9; exact SW.o x h9; rw [h9]; exact ((Su.o.mono (by omega)).sub ((Sq.o.mul Sv.o).mono (show 66 * t + 65 + 64 <= 66 * t + 129 by omega))).mono (by omega)), Rr, RS, Fq, HP, HB⟩
       case measure => simp [intOf]; omega
      ·skip
       obtain rfl : k = n := by omega
       go_wp2_with fail
       go_roundw
       case rel => exact ⟨t + 1, rest2, by omega, by go_num, hZ (HSt.o rest2 (by rw [HVp.o.1, HVp.o.2, Hrr.o]; exact hr0) HS.o.len (fun j => by rw [HVp.o.1, HVp.o.2, Hqq.o]; exact HS.o.all Hlen.o Hrl.o j)), SW, Rr, RS, HP, HB⟩
       case measure => simp [intOf]; omega
    ·skip
     refine (qAB (w := w5) Vr.o Sr.o (by omega)).mono ?_; rintro e w6 ⟨he, hB⟩; obtain ⟨sgr, hs9, q0r, q1r⟩ := qAY (x := rr) hr0; rw [hs9] at he; subst he; clear hs9; replace Rr := Rr.b hB; replace RS := RS.b hB; replace HP := HP.b hB; replace Fq := Fq.b hB; replace Fr := Fr.b hB; replace Vr := Vr.b hB; replace HB := bT HB hB; clear hB
     go_wp2_with fail
     go_ret; exact ⟨HB.o, false, rfl, ⟨fun h => by simp at h, fun h => absurd h.2.2.2 (HFl.o hr0)⟩⟩
  ·skip
   obtain rfl : t = b.length := by omega
   have HD := hZ HRt.o.done; have Hrl := hZ HRt.o.len
   go_wp2_with fail
   have HB9 : Hid (b.length <= 64 /\ n <= 128) := hZ ⟨by omega, by omega⟩
   go_loopw [94] (fun i wr => ∃ k : Nat, k <= n /\ i = .int .i64 k /\ Hid (∀ c, c < k -> vec rest c = 0) /\ Hid (qAE wr g rest) /\ Hid (Below w0.heap.size w0 wr)) (fun i _ => n - (intOf i).toNat)
   case atStart => exact ⟨0, by omega, rfl, hZ (fun c h => by omega), Rr, HB⟩
   case round =>
    clear Rr RS HP HB; obtain ⟨k, hk, rfl, HZ, Rr, HB⟩ := hrel; obtain ⟨w4, rfl⟩ := eY wr; by_cases hkn : k < n
    ·skip
     have i1 : (0 : Int) <= (k : Int) := by omega
     have i2 : (k : Int) < (n : Int) := by omega
     have Hkr : Hid (k < rest.length) := hZ (by rw [Hrl.o]; exact hkn); obtain ⟨s_x, a_x, n_x, c_x, d0x, d1x, h_x⟩ := Rr.o.get k Hkr.o; obtain ⟨x, hx⟩ := eX (rest[k]'Hkr.o); rw [hx] at h_x; have Vx := hZ h_x; have Hx := hZ hx; have Sx : Hid (Sz (66 * b.length + 64) x) := hZ (hx ▸ SV.o _ (List.getElem_mem _)); clear h_x hx; obtain ⟨w5, hw⟩ := eX ((w4.alloc (.cells #[.bool s_x, .slice a_x n_x c_x] 58))); have hB := aB hw; obtain ⟨bx, hb_bx⟩ := eX w4.heap.size; have h9 := Bx.new (w := w4) Vx.o; rw [hw, hb_bx] at h9; have Fx' := hZ h9; have hge_bx : w4.heap.size <= bx := by omega
     clear h9; replace Rr := Rr.b hB; replace Vx := Vx.b hB; replace HB := bT HB hB; have Fx := Fx'; clear Fx'; clear hB; obtain ⟨s_p, a_p, n_p, c_p, t_p, h_p⟩ := Fx.o; have d0p := t_p.cell0; have d1p := t_p.cell1; have Vp := hZ h_p; clear t_p h_p
     go_wp2_with fail
     clear hw hb_bx d0x d1x; clear d0p d1p; by_cases hx0 : x = 0
     ·skip
      refine (qAB (w := w5) Vp.o Sx.o (by omega)).mono ?_; rintro e w6 ⟨he, hB⟩; rw [show qAK x 0 = 0 by rw [hx0]; exact qAS 0] at he; subst he; replace Rr := Rr.b hB; replace Vx := Vx.b hB; replace Fx := Fx.b hB; replace Vp := Vp.b hB; replace HB := bT HB hB; clear hB
      go_wp2_with fail
      go_roundw
      case rel => exact ⟨k + 1, by omega, by go_num, hZ (fun c hc => if h9 : c < k then HZ.o c h9 else by rw [show c = k by omega, qAj Hkr.o, Hx.o]; exact hx0), Rr, HB⟩
      case measure => simp [intOf]; omega
     ·skip
      refine (qAB (w := w5) Vp.o Sx.o (by omega)).mono ?_; rintro e w6 ⟨he, hB⟩; obtain ⟨sgp, hs9, q0p, q1p⟩ := qAY (x := x) hx0; rw [hs9] at he; subst he; clear hs9; replace Rr := Rr.b hB; replace Vx := Vx.b hB; replace Fx := Fx.b hB; replace Vp := Vp.b hB; replace HB := bT HB hB; clear hB
      go_wp2_with fail
      go_ret; exact ⟨HB.o, false, rfl, ⟨fun h => by simp at h, fun h => absurd (HD.o.1 h.2.2.2 _ (List.getElem_mem Hkr.o)) (by rw [Hx.o]; exact hx0)⟩⟩
    ·skip
     go_wp2_with fail
     go_ret; exact ⟨HB.o, true, rfl, ⟨fun _ => ⟨HB9.o.1, by rw [HN.o]; exact HB9.o.2, by rw [HN.o]; exact HI.o, HD.o.2 (fun x hx => by obtain ⟨j, hj, rfl⟩ := List.mem_iff_getElem.1 hx; have := HZ.o j (by have := Hrl.o; omega); rwa [qAj hj] at this)⟩, fun _ => rfl⟩⟩
theorem qKs : IsN [[1, 1], [0, 2]] 2 := by
 intro i hi h
 match i, hi with
 | 0, _ => exact ⟨rfl, by (simp only [List.getElem_cons_zero, List.getElem_cons_succ]; decide), by (simp only [List.getElem_cons_zero, List.getElem_cons_succ]; decide), fun k hk => by omega, fun k hk => by omega⟩
 | 1, _ =>
  refine ⟨rfl, by (simp only [List.getElem_cons_zero, List.getElem_cons_succ]; decide), by (simp only [List.getElem_cons_zero, List.getElem_cons_succ]; decide), fun k hk => ?_, fun k hk => ?_⟩
  ·obtain rfl : k = 0 := by omega
   (simp only [List.getElem_cons_zero, List.getElem_cons_succ]; decide)
  ·obtain rfl : k = 0 := by omega
   (simp only [List.getElem_cons_zero, List.getElem_cons_succ]; decide)
theorem qLg : IsN [[1, 1, -1], [0, 3, -2]] 3 := by
 intro i hi h
 match i, hi with
 | 0, _ => exact ⟨rfl, by (simp only [List.getElem_cons_zero, List.getElem_cons_succ]; decide), by (simp only [List.getElem_cons_zero, List.getElem_cons_succ]; decide), fun k hk => by omega, fun k hk => by omega⟩
 | 1, _ =>
  refine ⟨rfl, by (simp only [List.getElem_cons_zero, List.getElem_cons_succ]; decide), by (simp only [List.getElem_cons_zero, List.getElem_cons_succ]; decide), fun k hk => ?_, fun k hk => ?_⟩
  ·obtain rfl : k = 0 := by omega
   (simp only [List.getElem_cons_zero, List.getElem_cons_succ]; decide)
  ·obtain rfl : k = 0 := by omega
   (simp only [List.getElem_cons_zero, List.getElem_cons_succ]; decide)
theorem qLk : qAC ([[2, 4], [3, 5]].map vec) 0 ([[1, 1], [0, 2]].map vec) := by
 have a1 : ∀ r ∈ ([[1, 1], [0, 2]] : List (List Int)).map vec, qAa ([[2, 4], [3, 5]].map vec) r := by
  intro r hr; simp only [List.map_cons, List.map_nil, List.mem_cons, List.not_mem_nil, or_false] at hr; rcases hr with rfl | rfl
  ·exact ⟨[-1, 1], fun j => match j with
    | 0 => rfl
    | 1 => rfl
    | j + 2 => by simp [comb, vec]⟩
  ·exact ⟨[3, -2], fun j => match j with
    | 0 => rfl
    | 1 => rfl
    | j + 2 => by simp [comb, vec]⟩
 have a2 : ∀ r ∈ ([[2, 4], [3, 5]] : List (List Int)).map vec, qAa ([[1, 1], [0, 2]].map vec) r := by
  intro r hr; simp only [List.map_cons, List.map_nil, List.mem_cons, List.not_mem_nil, or_false] at hr; rcases hr with rfl | rfl
  ·exact ⟨[2, 1], fun j => match j with
    | 0 => rfl
    | 1 => rfl
    | j + 2 => by simp [comb, vec]⟩
  ·exact ⟨[3, 1], fun j => match j with
    | 0 => rfl
    | 1 => rfl
    | j + 2 => by simp [comb, vec]⟩
 exact ⟨qKs.nrm, fun v => ⟨fun h => ⟨v, h.trans a1, fun j hj => by omega, fun j => by rw [Nat.zero_add]⟩, fun ⟨u, h1, _, h3⟩ => (h1.congr (fun j => by rw [h3, Nat.zero_add])).trans a2⟩⟩
theorem qL7 : qB8 [[1], [2], [3]] ([[1, 1, -1], [0, 3, -2]].map vec) := by
 refine ⟨qLg.nrm, fun v => ⟨?_, ?_⟩⟩
 ·rintro h
  obtain ⟨q, hq⟩ := h; have e : ∃ x y : Int, ∀ j, v j = x * vec [1, 1, -1] j + y * vec [0, 3, -2] j := by
   match q with
   | [] => exact ⟨0, 0, fun j => by rw [hq]; simp [comb]⟩
   | [x] => exact ⟨x, 0, fun j => by rw [hq]; simp [comb]⟩
   | x :: y :: q => exact ⟨x, y, fun j => by rw [hq]; cases q <;> simp [comb]⟩
  obtain ⟨x, y, hv⟩ := e; refine ⟨fun j hj => ?_, fun j => ?_⟩
  ·rw [hv, qAq (by simpa using hj), qAq (by simpa using hj)]; simp
  ·match j with
   | 0 =>
    show v 0 * 1 + (v 1 * 2 + (v 2 * 3 + 0)) = 0
    rw [hv 0, hv 1, hv 2]
    show (x * 1 + y * 0) * 1 + ((x * 1 + y * 3) * 2 + ((x * -1 + y * -2) * 3 + 0)) = 0
    omega
   | j + 1 => simp [qA4, vec]
 ·rintro ⟨h1, h2⟩
  have h0 : v 0 * 1 + (v 1 * 2 + (v 2 * 3 + 0)) = 0 := h2 0; refine ⟨[v 0, v 1 + v 2], fun j => ?_⟩
  match j with
  | 0 =>
   show v 0 = v 0 * 1 + ((v 1 + v 2) * 0 + 0)
   omega
  | 1 =>
   show v 1 = v 0 * 1 + ((v 1 + v 2) * 3 + 0)
   omega
  | 2 =>
   show v 2 = v 0 * -1 + ((v 1 + v 2) * -2 + 0)
   omega
  | j + 3 =>
   rw [h1 (j + 3) (by simp)]; simp [comb, vec]
theorem qMc : ¬ InB [[1, 1], [0, 2]] [3, 4] := by
 rintro ⟨-, -, -, q, hq⟩; have e : ∃ x y : Int, ∀ j, vec [3, 4] j = x * vec [1, 1] j + y * vec [0, 2] j := by
  match q with
  | [] => exact ⟨0, 0, fun j => by rw [hq]; simp [comb]⟩
  | [x] => exact ⟨x, 0, fun j => by rw [hq]; simp [comb]⟩
  | x :: y :: q => exact ⟨x, y, fun j => by rw [hq]; cases q <;> simp [comb]⟩
 obtain ⟨x, y, hv⟩ := e; have e0 : (3 : Int) = x * 1 + y * 0 := hv 0; have e1 : (4 : Int) = x * 1 + y * 2 := hv 1; omega
theorem qLj : InB [[1, 1], [0, 2]] [3, 5] :=
 ⟨by decide, by decide, qKs, ⟨[3, 1], fun j => match j with
  | 0 => rfl
  | 1 => rfl
  | j + 2 => by simp [comb, vec]⟩⟩
theorem qBO {n : Nat} : ∀ {A B : List (List Int)}, (∀ r ∈ A, r.length = n) -> (∀ r ∈ B, r.length = n) -> A.map vec = B.map vec -> A = B
 | [], [], _, _, _ => rfl
 | [], b :: B, _, _, h => by simp at h
 | a :: A, [], _, _, h => by simp at h
 | a :: A, b :: B, h1, h2, h => by
  simp only [List.map_cons, List.cons.injEq] at h; rw [qKJ (l := a) (l' := b) (by rw [h1 a (by simp), h2 b (by simp)]) (fun j => by rw [h.1]), qBO (fun r hr => h1 r (by simp [hr])) (fun r hr => h2 r (by simp [hr])) h.2]
open Go.RowKit
theorem qAD.blw {w w' : World} {v : Value} {m : List (List Int)} (h : qAD w v m) (hb : Below w.heap.size w w') : qAD w' v m := h.below hb
instance {w w' : World} {v : Value} {m : List (List Int)} : Mv w w' (qAD w v m) (qAD w' v m) := ⟨fun hb h => qAD.blw h hb⟩
theorem qMe : ∀ r ∈ ([[1, 1], [0, 2]] : List (List Int)), ∀ x ∈ r, qEm x := by unfold qEm; decide
theorem qMd : ∀ r ∈ ([[1, 1, -1], [0, 3, -2]] : List (List Int)), ∀ x ∈ r, qEm x := by unfold qEm; decide
theorem qBl.fit {H : List (List Int)} {e : Ending} {w' : World} (h : qBl H e w') (hf : ∀ r ∈ H, ∀ x ∈ r, qEm x) : ∃ u, e = .returned (.tuple #[u, .int .i64 0]) /\ qAD w' u H := by
 rcases h with ⟨-, r, hr, x, hx, hn⟩ | ⟨u, h1, h2, -⟩
 ·exact absurd (hf r hr x hx) hn
 ·exact ⟨u, h1, h2⟩
theorem qAm.lit {w : World} {g n : Nat} {l : List Int} (h : qAy w g 3 (l.map zv)) (hl : l.length = n) (hn : n <= 1000) : qAm w (.slice (some ⟨g, 0, none⟩) n n) l := by
 subst hl; exact qCo h (Nat.le_refl _) (by omega)
theorem qIZ (w0 : World) : Calls Try.prog 17 #[] w0 fun e w' => e = .returned (.bool true) /\ Below w0.heap.size w0 w' := by
 have HB := hZ (Below.refl w0.heap.size w0); obtain ⟨w1, hw_1⟩ := eX (w0.alloc (.cells #[.int .i64 2, .int .i64 4] 3)); have hB : Below w0.heap.size w0 w1 := by rw [<- hw_1]; exact (Below.refl _ _).alloc (Nat.le_refl _) _
 obtain ⟨b_1, hb_1⟩ := eX w0.heap.size; have O_1' : Hid (qAy w1 b_1 3 (([2, 4] : List Int).map zv)) := hZ (by rw [<- hw_1, <- hb_1]; exact qAy.new _ _ _); replace HB := bT HB hB; clear hB; have O_1 := O_1'; clear O_1'; obtain ⟨w2, hw_2⟩ := eX (w1.alloc (.cells #[.int .i64 3, .int .i64 5] 3)); have hB : Below w1.heap.size w1 w2 := by rw [<- hw_2]; exact (Below.refl _ _).alloc (Nat.le_refl _) _
 obtain ⟨b_2, hb_2⟩ := eX w1.heap.size; have O_2' : Hid (qAy w2 b_2 3 (([3, 5] : List Int).map zv)) := hZ (by rw [<- hw_2, <- hb_2]; exact qAy.new _ _ _); replace O_1 := O_1.b hB; replace HB := bT HB hB; clear hB; have O_2 := O_2'; clear O_2'; obtain ⟨w3, hw_3⟩ := eX (w2.alloc (.cells #[.slice (some ⟨b_1, 0, none⟩) 2 2, .slice (some ⟨b_2, 0, none⟩) 2 2] 22)); have hB : Below w2.heap.size w2 w3 := by rw [<- hw_3]; exact (Below.refl _ _).alloc (Nat.le_refl _) _
 obtain ⟨b_3, hb_3⟩ := eX w2.heap.size; have O_3' : qAy w3 b_3 22 (qGl [(b_1, 2), (b_2, 2)] 0) := by rw [<- hw_3, <- hb_3]; exact qAy.new _ _ _
 replace O_1 := O_1.b hB; replace O_2 := O_2.b hB; replace HB := bT HB hB; clear hB; have M_3 : Hid (qAD w3 (.slice (some ⟨b_3, 0, none⟩) 2 2) [[2, 4], [3, 5]]) := hZ ((((qAI.nil _).snoc O_1.o).snoc O_2.o).mat O_3' (by simp) (by simp) (by simp)); clear O_3'; clear O_1; clear O_2
 go_enter Try.func17, Try.ntmps17
 go_wp2_with fail
 clear hw_1 hb_1 hw_2 hb_2 hw_3 hb_3; refine (qGN w3 _ _ M_3.o).mono ?_; rintro e w4 ⟨hB, ⟨hz, -⟩ | ⟨-, Hm, h1, h2, -, h3⟩⟩
 ·exact absurd (by decide) hz
 obtain rfl : Hm = [[1, 1], [0, 2]] := qBO (n := 2) h2 (by decide) (h1.uniq qLk); obtain ⟨ua, rfl, hu⟩ := h3.fit qMe; have Mu' := hZ hu; clear h1 h2 h3 hu; clear M_3; replace HB := bT HB hB; clear hB; have Mu := Mu'; clear Mu'; obtain ⟨w5, hw_4⟩ := eX (w4.alloc (.cells #[.int .i64 1] 3)); have hB : Below w4.heap.size w4 w5 := by rw [<- hw_4]; exact (Below.refl _ _).alloc (Nat.le_refl _) _
 obtain ⟨b_4, hb_4⟩ := eX w4.heap.size; have O_4' : Hid (qAy w5 b_4 3 (([1] : List Int).map zv)) := hZ (by rw [<- hw_4, <- hb_4]; exact qAy.new _ _ _); replace Mu := Mu.b hB; replace HB := bT HB hB; clear hB; have O_4 := O_4'; clear O_4'; obtain ⟨w6, hw_5⟩ := eX (w5.alloc (.cells #[.int .i64 2] 3)); have hB : Below w5.heap.size w5 w6 := by rw [<- hw_5]; exact (Below.refl _ _).alloc (Nat.le_refl _) _
 obtain ⟨b_5, hb_5⟩ := eX w5.heap.size; have O_5' : Hid (qAy w6 b_5 3 (([2] : List Int).map zv)) := hZ (by rw [<- hw_5, <- hb_5]; exact qAy.new _ _ _); replace Mu := Mu.b hB; replace O_4 := O_4.b hB; replace HB := bT HB hB; clear hB; have O_5 := O_5'; clear O_5'; obtain ⟨w7, hw_6⟩ := eX (w6.alloc (.cells #[.int .i64 3] 3)); have hB : Below w6.heap.size w6 w7 := by rw [<- hw_6]; exact (Below.refl _ _).alloc (Nat.le_refl _) _
 obtain ⟨b_6, hb_6⟩ := eX w6.heap.size; have O_6' : Hid (qAy w7 b_6 3 (([3] : List Int).map zv)) := hZ (by rw [<- hw_6, <- hb_6]; exact qAy.new _ _ _); replace Mu := Mu.b hB; replace O_4 := O_4.b hB; replace O_5 := O_5.b hB; replace HB := bT HB hB; clear hB; have O_6 := O_6'; clear O_6'; obtain ⟨w8, hw_7⟩ := eX (w7.alloc (.cells #[.slice (some ⟨b_4, 0, none⟩) 1 1, .slice (some ⟨b_5, 0, none⟩) 1 1, .slice (some ⟨b_6, 0, none⟩) 1 1] 22)); have hB : Below w7.heap.size w7 w8 := by rw [<- hw_7]; exact (Below.refl _ _).alloc (Nat.le_refl _) _
 obtain ⟨b_7, hb_7⟩ := eX w7.heap.size; have O_7' : qAy w8 b_7 22 (qGl [(b_4, 1), (b_5, 1), (b_6, 1)] 0) := by rw [<- hw_7, <- hb_7]; exact qAy.new _ _ _
 replace Mu := Mu.b hB; replace O_4 := O_4.b hB; replace O_5 := O_5.b hB; replace O_6 := O_6.b hB; replace HB := bT HB hB; clear hB; have M_7 : Hid (qAD w8 (.slice (some ⟨b_7, 0, none⟩) 3 3) [[1], [2], [3]]) := hZ (((((qAI.nil _).snoc O_4.o).snoc O_5.o).snoc O_6.o).mat O_7' (by simp) (by simp) (by simp)); clear O_7'; clear O_4; clear O_5; clear O_6
 go_wp2_with fail
 clear hw_4 hb_4 hw_5 hb_5 hw_6 hb_6 hw_7 hb_7; refine (qIh w8 _ _ M_7.o).mono ?_; rintro e w9 ⟨hB, ⟨hz, -⟩ | ⟨-, Hm, h1, h2, -, h3⟩⟩
 ·exact absurd (by decide) hz
 obtain rfl : Hm = [[1, 1, -1], [0, 3, -2]] := qBO (n := 3) h2 (by decide) (h1.uniq qL7); obtain ⟨ub, rfl, hu⟩ := h3.fit qMd; have Mk' := hZ hu; clear h1 h2 h3 hu; clear M_7; replace Mu := Mu.b hB; replace HB := bT HB hB; clear hB; have Mk := Mk'; clear Mk'; obtain ⟨w10, hw_8⟩ := eX (w9.alloc (.cells #[.int .i64 1, .int .i64 1] 3)); have hB : Below w9.heap.size w9 w10 := by rw [<- hw_8]; exact (Below.refl _ _).alloc (Nat.le_refl _) _
 obtain ⟨b_8, hb_8⟩ := eX w9.heap.size; have O_8' : Hid (qAy w10 b_8 3 (([1, 1] : List Int).map zv)) := hZ (by rw [<- hw_8, <- hb_8]; exact qAy.new _ _ _); replace Mu := Mu.b hB; replace Mk := Mk.b hB; replace HB := bT HB hB; clear hB; have O_8 := O_8'; clear O_8'; obtain ⟨w11, hw_9⟩ := eX (w10.alloc (.cells #[.int .i64 0, .int .i64 2] 3)); have hB : Below w10.heap.size w10 w11 := by rw [<- hw_9]; exact (Below.refl _ _).alloc (Nat.le_refl _) _
 obtain ⟨b_9, hb_9⟩ := eX w10.heap.size; have O_9' : Hid (qAy w11 b_9 3 (([0, 2] : List Int).map zv)) := hZ (by rw [<- hw_9, <- hb_9]; exact qAy.new _ _ _); replace Mu := Mu.b hB; replace Mk := Mk.b hB; replace O_8 := O_8.b hB; replace HB := bT HB hB; clear hB; have O_9 := O_9'; clear O_9'; obtain ⟨w12, hw_10⟩ := eX (w11.alloc (.cells #[.slice (some ⟨b_8, 0, none⟩) 2 2, .slice (some ⟨b_9, 0, none⟩) 2 2] 22)); have hB : Below w11.heap.size w11 w12 := by rw [<- hw_10]; exact (Below.refl _ _).alloc (Nat.le_refl _) _
 obtain ⟨b_10, hb_10⟩ := eX w11.heap.size; have O_10' : qAy w12 b_10 22 (qGl [(b_8, 2), (b_9, 2)] 0) := by rw [<- hw_10, <- hb_10]; exact qAy.new _ _ _
 replace Mu := Mu.b hB; replace Mk := Mk.b hB; replace O_8 := O_8.b hB; replace O_9 := O_9.b hB; replace HB := bT HB hB; clear hB; have M_10 : Hid (qAD w12 (.slice (some ⟨b_10, 0, none⟩) 2 2) [[1, 1], [0, 2]]) := hZ ((((qAI.nil _).snoc O_8.o).snoc O_9.o).mat O_10' (by simp) (by simp) (by simp)); clear O_10'; clear O_8; clear O_9
 go_wp2_with fail
 clear hw_8 hb_8 hw_9 hb_9 hw_10 hb_10; refine (qHc _ _ _ _ w12 Mu.o M_10.o).mono ?_; rintro e w13 ⟨rfl, hB⟩; rw [decide_eq_true rfl]; clear M_10; replace Mu := Mu.b hB; replace Mk := Mk.b hB; replace HB := bT HB hB; clear hB; obtain ⟨w14, hw_11⟩ := eX (w13.alloc (.cells #[.int .i64 1, .int .i64 1, .int .i64 (-1)] 3)); have hB : Below w13.heap.size w13 w14 := by rw [<- hw_11]; exact (Below.refl _ _).alloc (Nat.le_refl _) _
 obtain ⟨b_11, hb_11⟩ := eX w13.heap.size; have O_11' : Hid (qAy w14 b_11 3 (([1, 1, -1] : List Int).map zv)) := hZ (by rw [<- hw_11, <- hb_11]; exact qAy.new _ _ _); replace Mu := Mu.b hB; replace Mk := Mk.b hB; replace HB := bT HB hB; clear hB; have O_11 := O_11'; clear O_11'; obtain ⟨w15, hw_12⟩ := eX (w14.alloc (.cells #[.int .i64 0, .int .i64 3, .int .i64 (-2)] 3)); have hB : Below w14.heap.size w14 w15 := by rw [<- hw_12]; exact (Below.refl _ _).alloc (Nat.le_refl _) _
 obtain ⟨b_12, hb_12⟩ := eX w14.heap.size; have O_12' : Hid (qAy w15 b_12 3 (([0, 3, -2] : List Int).map zv)) := hZ (by rw [<- hw_12, <- hb_12]; exact qAy.new _ _ _); replace Mu := Mu.b hB; replace Mk := Mk.b hB; replace O_11 := O_11.b hB; replace HB := bT HB hB; clear hB; have O_12 := O_12'; clear O_12'; obtain ⟨w16, hw_13⟩ := eX (w15.alloc (.cells #[.slice (some ⟨b_11, 0, none⟩) 3 3, .slice (some ⟨b_12, 0, none⟩) 3 3] 22)); have hB : Below w15.heap.size w15 w16 := by rw [<- hw_13]; exact (Below.refl _ _).alloc (Nat.le_refl _) _
 obtain ⟨b_13, hb_13⟩ := eX w15.heap.size; have O_13' : qAy w16 b_13 22 (qGl [(b_11, 3), (b_12, 3)] 0) := by rw [<- hw_13, <- hb_13]; exact qAy.new _ _ _
 replace Mu := Mu.b hB; replace Mk := Mk.b hB; replace O_11 := O_11.b hB; replace O_12 := O_12.b hB; replace HB := bT HB hB; clear hB; have M_13 : Hid (qAD w16 (.slice (some ⟨b_13, 0, none⟩) 2 2) [[1, 1, -1], [0, 3, -2]]) := hZ ((((qAI.nil _).snoc O_11.o).snoc O_12.o).mat O_13' (by simp) (by simp) (by simp)); clear O_13'; clear O_11; clear O_12
 go_wp2_with fail
 clear hw_11 hb_11 hw_12 hb_12 hw_13 hb_13; refine (qHc _ _ _ _ w16 Mk.o M_13.o).mono ?_; rintro e w17 ⟨rfl, hB⟩; rw [decide_eq_true rfl]; clear M_13; replace Mu := Mu.b hB; replace Mk := Mk.b hB; replace HB := bT HB hB; clear hB; obtain ⟨w18, hw_14⟩ := eX (w17.alloc (.cells #[.int .i64 3, .int .i64 4] 3)); have hB : Below w17.heap.size w17 w18 := by rw [<- hw_14]; exact (Below.refl _ _).alloc (Nat.le_refl _) _
 obtain ⟨b_14, hb_14⟩ := eX w17.heap.size; have O_14' : Hid (qAy w18 b_14 3 (([3, 4] : List Int).map zv)) := hZ (by rw [<- hw_14, <- hb_14]; exact qAy.new _ _ _); replace Mu := Mu.b hB; replace Mk := Mk.b hB; replace HB := bT HB hB; clear hB; have O_14 := O_14'; clear O_14'
 go_wp2_with fail
 clear hw_14 hb_14; refine (qI4 w18 _ _ _ [3, 4] Mu.o (qAm.lit (n := 2) O_14.o rfl (by omega)) (by decide) (by decide)).mono ?_; rintro e w19 ⟨hB, tb, rfl, htb⟩; obtain rfl : tb = false := by cases tb with | false => rfl | true => exact absurd (htb.1 rfl) qMc
 clear htb; clear O_14; replace Mu := Mu.b hB; replace Mk := Mk.b hB; replace HB := bT HB hB; clear hB; obtain ⟨w20, hw_15⟩ := eX (w19.alloc (.cells #[.int .i64 3, .int .i64 5] 3)); have hB : Below w19.heap.size w19 w20 := by rw [<- hw_15]; exact (Below.refl _ _).alloc (Nat.le_refl _) _
 obtain ⟨b_15, hb_15⟩ := eX w19.heap.size; have O_15' : Hid (qAy w20 b_15 3 (([3, 5] : List Int).map zv)) := hZ (by rw [<- hw_15, <- hb_15]; exact qAy.new _ _ _); replace Mu := Mu.b hB; replace Mk := Mk.b hB; replace HB := bT HB hB; clear hB; have O_15 := O_15'; clear O_15'
 go_wp2_with fail
 clear hw_15 hb_15; refine (qI4 w20 _ _ _ [3, 5] Mu.o (qAm.lit (n := 2) O_15.o rfl (by omega)) (by decide) (by decide)).mono ?_; rintro e w21 ⟨hB, tb, rfl, htb⟩; obtain rfl : tb = true := htb.2 qLj; clear htb; clear O_15; replace Mu := Mu.b hB; replace Mk := Mk.b hB; replace HB := bT HB hB; clear hB
 go_wp2_with fail
 go_ret; exact ⟨rfl, HB.o⟩
open Go.RowKit
def qBk (n m : Int) : Int := if n < 0 then (-(n+1)) % m else n % m
theorem qBf (n m : Int) (hm : 1 <= m) : 0 <= qBk n m /\ qBk n m < m := by
 unfold qBk
 split
 ·exact ⟨Int.emod_nonneg _ (by omega), Int.emod_lt_of_pos _ (by omega)⟩
 ·exact ⟨Int.emod_nonneg _ (by omega), Int.emod_lt_of_pos _ (by omega)⟩
theorem qJp (n m : Int) (hn : n < 0) (_hm : 1 <= m) : (-(n + 1)).tmod m = qBk n m := by
 unfold qBk; rw [if_pos hn, Int.tmod_eq_emod_of_nonneg (by omega)]
theorem qII {k : IntKind} {a b : Int} (h : a = b) : Ending.returned (.int k a) = .returned (.int k b) := by rw [h]
theorem qCe (n m : Int) (w : World) (hn : -9223372036854775808 <= n) (hn' : n <= 9223372036854775807) (hm : 1 <= m) (hm' : m <= 9223372036854775807) :
 Calls Try.prog 13 #[.int .i64 n, .int .i64 m] w fun e w' => e = .returned (.int .i64 (qBk n m)) /\ w = w' := by
 by_cases h : n < 0
 ·have h2 := hZ (qJp n m h hm)
  go_enter Try.func13, Try.ntmps13
  go_wp2
  go_ret; exact ⟨qII (by rw [<- h2.o, Int.neg_tmod]), rfl⟩
 ·go_enter Try.func13, Try.ntmps13
  go_wp2
  go_ret; exact ⟨qII (by rw [qBk, if_neg (by omega)]), rfl⟩
def qCB (w : World) (v : Value) (zs : List Int) (len : Nat) : Prop :=
 (∃ a cap, v = .slice a 0 cap /\ len = 0 /\ cap <= 9223372036854775807) \/ ∃ b off cap, v = .slice (some ⟨b, off, none⟩) len cap /\ b < w.heap.size /\ len <= cap /\ cap <= 9223372036854775807 /\ (∀ j, j < len -> w.cell? ⟨b, off + j, none⟩ = some (.int .i64 (zs[j]?.getD 0))) /\ (∀ j, j < len -> -9223372036854775808 <= zs[j]?.getD 0 /\ zs[j]?.getD 0 <= 9223372036854775807)
theorem qCB.below {w w' : World} {v : Value} {zs : List Int} {len : Nat} (h : qCB w v zs len) {B : Nat} (hB : w.heap.size <= B) (hb : Below B w w') : qCB w' v zs len := by
 rcases h with h | ⟨b, off, cap, hv, hlt, h1, h2, hc, hr⟩
 ·exact .inl h
 ·exact .inr ⟨b, off, cap, hv, Nat.lt_of_lt_of_le hlt hb.size, h1, h2, fun j hj => (hb.cell (p := ⟨b, off + j, none⟩) (Nat.lt_of_lt_of_le hlt hB)).trans (hc j hj), hr⟩
def qDn (zs : List Int) (len i : Nat) (m : Int) : Int := if i < len then qBk (zs[i]?.getD 0) m else 0
theorem qBN (zs : List Int) (len i : Nat) (m : Int) (hm : 0 < m) : 0 <= qDn zs len i m /\ qDn zs len i m < m := by
 unfold qDn; by_cases h : i < len
 ·rw [if_pos h]; exact qBf _ _ hm
 ·rw [if_neg h]; omega
theorem qC3 (v : Value) (zs : List Int) (len i : Nat) (m : Int) (w : World) (h : qCB w v zs len) (hi : i <= 4611686018427387904) (hm0 : 0 < m) (hm1 : m <= 4611686018427387904) :
 Calls Try.prog 29 #[v, .int .i64 i, .int .i64 m] w fun e w' => e = .returned (.int .i64 (qDn zs len i m)) /\ w' = w := by
 rcases h with ⟨a, cap, rfl, rfl, hcap⟩ | ⟨b, off, cap, rfl, hlt, h1, h2, hc, hr⟩
 ·have hp : Hid (qDn zs 0 i m = 0) := hZ (by unfold qDn; rw [if_neg (by omega)])
  go_enter Try.func29, Try.ntmps29
  go_wp2
  go_ret; exact ⟨by rw [hp.o]; rfl, rfl⟩
 ·by_cases hil : i < len
  ·have hp : Hid (qDn zs len i m = qBk (zs[i]?.getD 0) m) := hZ (by unfold qDn; rw [if_pos hil])
   have hcell := hc i hil; have hri := hr i hil; clear hc hr; generalize zs[i]?.getD 0 = z at *
   go_enter Try.func29, Try.ntmps29
   go_wp2_with (go_at_call 13; refine (qCe z m w hri.1 hri.2 (by omega) (by omega)).mono ?_; rintro e w' ⟨rfl, rfl⟩)
   go_ret; exact ⟨by rw [hp.o]; rfl, rfl⟩
  ·have hp : Hid (qDn zs len i m = 0) := hZ (by unfold qDn; rw [if_neg hil])
   clear hc hr
   go_enter Try.func29, Try.ntmps29
   go_wp2
   go_ret; exact ⟨by rw [hp.o]; rfl, rfl⟩
open Go.RowKit
theorem qJe : qIq Try.prog 23 22 1 24 := qIq.mk (z := .slice none 0 0) Try.underlying23 (by kernel_rfl) rfl (by decide)
theorem qAD.of_own {w : World} {base : Nat} {v : Value} {l : List (Nat × Nat)} {M : List (List Int)} (h : w.ownsRow base 22 1 v l.length (l.map rwI)) (hr : qAI w l M) (hc : ∀ r ∈ M, r.length <= 9223372036854775807) : qAD w v M := by
 refine qAh.of_own (css := l.map (fun x => [rwI x])) (base := base) (e := 22) (by rw [qBq, List.length_map]; exact h) (fun cs h => by obtain ⟨x, _, rfl⟩ := List.mem_map.1 h; rfl) (by rw [List.length_map]; exact hr.len.symm) (fun j h1 h2 => ?_); have h3 : j < l.length := by rw [<- hr.len]; exact h1
 obtain ⟨k1, k2⟩ := hr.row j h3; rw [List.getElem_map]; refine ⟨_, rfl, ?_⟩; have := qCo k1 (Nat.le_refl _) (hc _ (List.getElem_mem _)); rw [k2] at this; exact this
theorem qAI.only' {w w' : World} {S : Nat -> Prop} {l : List (Nat × Nat)} {M : List (List Int)} (h : qAI w l M) (ho : qAb S w w') (hr : ∀ i (hi : i < l.length), ¬ S l[i].1) : qAI w' l M := ⟨h.len, fun i hi => ⟨(h.row i hi).1.only ho (hr i hi), (h.row i hi).2⟩⟩
theorem qBo {w : World} {base n g b : Nat} {v : Value} {xs cs : List Value} (h : w.ownsRow base 22 1 v n xs) (hb : v.ownBlock = some b) (hr : qAy w g 3 cs) : g ≠ b := by
 rintro rfl; rcases h.2 with ⟨hv, _⟩ | ⟨g', cap, cur, hv, _, hg, _⟩
 ·rw [hv] at hb; cases hb
 ·rw [hv] at hb
  simp only [Value.ownBlock, Option.some.injEq] at hb; subst hb; unfold qAy at hr; rw [hr] at hg; injection hg with hg; injection hg with _ hg2 _; exact absurd hg2 (by decide)
theorem qDo {w w' : World} {base k n : Nat} {e : TypeId} {v : Value} {xs : List Value} (hB : Below w.heap.size w w') (h : w.ownsRow base e k v n xs) : w'.ownsRow base e k v n xs := (qAb.of_below (S := fun _ => False) hB).own h (fun _ _ h => h)
end Go.Proofs.Ytlmbebbdamgfpaa
