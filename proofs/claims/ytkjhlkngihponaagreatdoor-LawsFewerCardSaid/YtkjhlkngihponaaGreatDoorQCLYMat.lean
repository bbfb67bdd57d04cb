/- Matrices of ints of one's own. -/
import Derived.Test.YtkjhlkngihponaaGreatDoorQCLIsN
import Derived.Test.YtkjhlkngihponaaGreatDoorQCLWiden
import Derived.Test.YtkjhlkngihponaaGreatDoorQCWDivide
import Derived.Test.YtkjhlkngihponaaGreatDoorProg
import Derived.Test.YtkjhlkngihponaaGreatDoorQCStr
import Derived.WalkKit
import Derived.WalkSpells
import Derived.WalkLawsBesides
import Derived.Test.YtkjhlkngihponaaGreatDoorQCLSmall
import Derived.Deep.CutRange
import Derived.Laws.AppendOwnNone
import Derived.Test.YtkjhlkngihponaaGreatDoorQCLElP
import Derived.Test.YtkjhlkngihponaaGreatDoorQCLRow
set_option linter.unusedVariables false
set_option linter.unusedSimpArgs false
set_option maxHeartbeats 8000000
set_option maxRecDepth 100000
namespace Go.Proofs.YtkjhlkngihponaaGreatDoor
open Go.RowKit
theorem qAj.blw {w w' : World} {v : Value} {l : List Int} (h : qAj w v l) (hb : Below w.heap.size w w') : qAj w' v l := h.below hb
instance {w w' : World} {v : Value} {l : List Int} : Mv w w' (qAj w v l) (qAj w' v l) := ⟨fun hb h => qAj.blw h hb⟩
theorem qNv {w : World} {bp n c g o1 o2 : Nat} {l : List Int} {s : Bool} {a : Option Addr} {n' c' : Nat} (h : qAj w (.slice (some ⟨bp, 0, none⟩) n c) l) (hne : bp ≠ g) : qAj (st2 w g o1 o2 s a n' c') (.slice (some ⟨bp, 0, none⟩) n c) l := by
 obtain ⟨a1, cap, hv, h1, h2, hc⟩ := h; injection hv with e1 e2 e3; subst e1 e2 e3; refine ⟨_, c, rfl, h1, h2, fun h0 => ?_⟩; obtain ⟨b', hb, hlt, hcc⟩ := hc h0; injection hb with hb; injection hb with hb; subst hb; refine ⟨bp, rfl, by rw [qJp]; exact hlt, fun j hj => ?_⟩; obtain ⟨cs, k1, k2, k3⟩ := hcc j hj; refine ⟨cs, k1, k2, fun i hi => ?_⟩; have ho : qAb (fun b => b = g) w (st2 w g o1 o2 s a n' c') := (qAb.refl _ _).off' (.inl rfl); exact (ho.cell (p := ⟨bp, j * 1 + i, none⟩) hne hlt).trans (k3 i hi)
def qQp (w0 : World) (b : List (List Int)) (v : List Int) (e : Ending) (w' : World) : Prop :=
 Below w0.heap.size w0 w' /\ ∃ t : Bool, e = .returned (.bool t) /\ (t = true ↔ InB b v)
theorem qOR {w : World} {a : Option Addr} {n c g : Nat} {r : List Int} {t : TypeId} (h : qAj w (.slice a n c) r) (hg : One w g t (.slice a n c)) : qAR w (.slice (some ⟨g, 0, none⟩) 1 1) [r] := by
 refine ⟨_, 1, rfl, by simp, by omega, fun _ => ⟨g, rfl, hg.lt, fun j hj => ?_⟩⟩; simp only [List.length_singleton] at hj; obtain rfl : j = 0 := by omega
 refine ⟨_, ⟨_, rfl, h⟩, rfl, fun i hi => ?_⟩; obtain rfl : i = 0 := by omega
 exact hg.cell
theorem qN8 {x : Int} (h1 : -9223372036854775808 <= x) (h2 : x <= 9223372036854775807) : Sz 64 x := by
 unfold Sz; have : (2 : Nat) ^ 64 = 18446744073709551616 := by decide
 omega
structure qGO (q : Int) (n p k : Nat) (row rest rest' : List Int) : Prop where
 len : rest'.length = n
 done : ∀ t, t < k -> vec rest' t = vec rest t - q * vec row t
 left : ∀ t, k <= t -> vec rest' t = vec rest t
theorem qGO.start {q : Int} {n p : Nat} {row rest : List Int} (hl : rest.length = n) (h0 : ∀ c, c < p -> vec row c = 0) : qGO q n p p row rest rest :=
 ⟨hl, fun t ht => by rw [h0 t ht, Int.mul_zero, Int.sub_zero], fun _ _ => rfl⟩
theorem qGO.step {q : Int} {n p k : Nat} {row rest rest' : List Int} (h : qGO q n p k row rest rest') (hk : k < n) {z : Int} (hz : z = vec rest' k - q * vec row k) : qGO q n p (k + 1) row rest (rest'.set k z) := by
 have hl := h.len; have e : ∀ t, vec (rest'.set k z) t = if t = k then z else vec rest' t := fun t => qBI (by omega) z t; refine ⟨by rw [List.length_set]; exact hl, fun t ht => ?_, fun t ht => by rw [e, if_neg (by omega)]; exact h.left t (by omega)⟩; rw [e]; by_cases h1 : t = k
 ·subst h1; rw [if_pos rfl, hz, h.left t (Nat.le_refl _)]
 ·rw [if_neg h1]; exact h.done t (by omega)
theorem qGO.all {q : Int} {n p : Nat} {row rest rest' : List Int} (h : qGO q n p n row rest rest') (hr : rest.length = n) (hrow : row.length = n) (t : Nat) : vec rest' t = vec rest t - q * vec row t := by
 rcases Nat.lt_or_ge t n with h1 | h1
 ·exact h.done t h1
 ·rw [qAo (by rw [h.len]; exact h1), qAo (by omega), qAo (by omega)]; simp
theorem qOc (w0 : World) (vb vv : Value) (b : List (List Int)) (v : List Int) (h : qAR w0 vb b) (hv : qAj w0 vv v) (fb : ∀ r ∈ b, ∀ x ∈ r, -9223372036854775808 <= x /\ x <= 9223372036854775807) (fv : ∀ x ∈ v, -9223372036854775808 <= x /\ x <= 9223372036854775807) : Calls Tryz.prog 16 #[vb, vv] w0 (qQp w0 b v) := by
 have H := hZ h; have HV := hZ hv; have HB := hZ (Below.refl w0.heap.size w0); have HFb := hZ fb; have HFv := hZ fv; obtain ⟨av, cv, rfl, q1, q2⟩ := h.form; obtain ⟨ai, ci, rfl, q3, q4⟩ := hv.form; clear h hv fb fv; by_cases hb : 64 < b.length
 ·have s1 : (64 : Int) < (b.length : Int) := by omega
  go_enter Tryz.func16, Tryz.ntmps16
  go_wp2_with fail
  go_ret; exact ⟨HB.o, false, rfl, by simp [InB]; omega⟩
 have s1 : ¬ (64 : Int) < (b.length : Int) := by omega
 by_cases hc : 128 < v.length
 ·have s2 : (128 : Int) < (v.length : Int) := by omega
  go_enter Tryz.func16, Tryz.ntmps16
  go_wp2_with fail
  go_ret; exact ⟨HB.o, false, rfl, by simp [InB]; omega⟩
 have s2 : ¬ (128 : Int) < (v.length : Int) := by omega
 obtain ⟨n, hn⟩ := eX v.length; have HN := hZ hn; rw [hn] at HV q3 hc s2 ⊢; clear hn
 go_enter Tryz.func16, Tryz.ntmps16
 go_wp2_with fail
 refine (qHx w0 _ b n H.o (by omega) (by omega)).mono ?_; rintro e w1 ⟨hB, ⟨hi, rfl⟩ | ⟨hi, vp, rfl, hp⟩⟩
 ·replace HB := bT HB hB
  have HI := hZ hi; clear hB hi
  go_wp2_with fail
  go_ret; exact ⟨HB.o, false, rfl, by simp [InB]; intro _ _ h; rw [HN.o] at h; exact absurd h HI.o⟩
 replace HB := bT HB hB; have HI := hZ hi; have HP := hZ hp; obtain ⟨ap, cp, hvp, q5, q6⟩ := hp.form; rw [List.length_map] at hvp q5; subst hvp; clear hB hi hp; obtain ⟨w2, hw⟩ := eX (w1.alloc (.cells #[.slice ai n ci] 22)); have hB := aB hw; obtain ⟨g1, hg1⟩ := eX w1.heap.size; have On' : Hid (One w2 g1 22 (.slice ai n ci)) := hZ (by rw [<- hw, <- hg1]; exact One.new _ _ _); replace HP := hZ (HP.o.below hB); replace HB := bT HB hB; clear hB
 go_wp2_with fail
 clear hw hg1; have HM1 : Hid (qAR w2 (.slice (some ⟨g1, 0, none⟩) 1 1) [v]) := hZ (qOR (HV.o.below HB.o) On'.o); clear On'; refine (qGV _ [v] n w2 HM1.o (by simp) (fun r hr => by rw [List.mem_singleton.1 hr]; exact HN.o) (by omega) (fun r hr x hx => by rw [List.mem_singleton.1 hr] at hx; exact HFv.o x hx)).mono ?_; rintro e w3 ⟨R1, l1, rfl, h1, h2, h3, h4, h5, hB⟩; simp only [List.length_singleton] at h2; obtain ⟨g, c1, rfl⟩ : ∃ g c, l1 = [(g, c)] := by
  match l1, h2 with
  | [(g, c)], _ => exact ⟨g, c, rfl⟩
 have hrr := h1.rows.row 0 (by simp); have hcc := h1.rows.cap 0 (by simp); have h40 := h4 0 (by simp); simp only [List.getElem_cons_zero] at hrr hcc h40; have Rr := hZ hrr.1; have HGg : Hid (w2.heap.size <= g) := hZ h40; have e0 := h1.get 0 (by simp); simp only [List.getElem_cons_zero] at e0; obtain ⟨hcc1, hcc2⟩ := hcc; have Hs3 := hZ HB.o.size; have HPG : Hid (∀ bq, ap = some ⟨bq, 0, none⟩ -> 0 < b.length -> bq < g) := hZ (fun bq e h0 => by
  obtain ⟨b', cap', hv', hb', -⟩ := HP.o.at_ 0 (by simpa using h0); rw [e] at hv'; injection hv' with e1 e2 e3; injection e1 with e1; injection e1 with e1; subst e1; exact Nat.lt_of_lt_of_le hb' HGg.o)
 replace HP := hZ (HP.o.below hB); replace HB := bT HB hB; have HG0 : Hid (w0.heap.size <= g) := hZ (Nat.le_trans Hs3.o HGg.o); clear h1 h2 h3 h4 h5 hrr h40 hB HM1 HGg Hs3
 go_wp2_with fail
 clear e0; refine (qGV _ b n w3 (H.o.below HB.o) (by omega) (fun r hr => by obtain ⟨i, hi, rfl⟩ := List.mem_iff_getElem.1 hr; exact (HI.o.row i hi).1) (by omega) HFb.o).mono ?_; rintro e w4 ⟨R, l, rfl, h1, h2, h3, h4, h5, hB⟩; have RS := hZ h1; have Hl := hZ h2; have HGR : Hid (g < R /\ ∀ i (h : i < l.length), g < l[i].1) := hZ ⟨Nat.lt_of_lt_of_le Rr.o.lt h3, fun i hi => Nat.lt_of_lt_of_le Rr.o.lt (h4 i hi)⟩; have HCap : Hid (∀ i (h : i < l.length), l[i].2 = n) := hZ h5; replace HP := hZ (HP.o.below hB); replace Rr := Rr.b hB; replace HB := bT HB hB; clear hB; clear h1 h2 h3 h4 h5
 go_wp2_with fail
 have HRt := hZ (qCh.start (b := b) HN.o); have SV : Hid (∀ x ∈ v, Sz (66 * 0 + 64) x) := hZ (fun x hx => by have := HFv.o x hx; exact qN8 this.1 this.2); have HPV : Hid (qAj w4 (.slice ap b.length cp) (b.map (fun r => (pv r : Int)))) := HP; have HBP : Hid (Below w4.heap.size w4 w4) := hZ (Below.refl _ _)
 go_loopw [43] (fun i wr => ∃ (t : Nat) (rest : List Int), t <= b.length /\ i = .int .i64 t /\ Hid (qCh b n v t rest) /\ Hid (∀ x ∈ rest, Sz (66 * t + 64) x) /\ Hid (qAB wr g rest) /\ Hid (qB7 wr R l n b) /\ Hid (qAj wr (.slice ap b.length cp) (b.map (fun r => (pv r : Int)))) /\ Hid (Below w0.heap.size w0 wr)) (fun i _ => b.length - (intOf i).toNat)
 case atStart => exact ⟨0, v, by omega, rfl, HRt, SV, Rr, RS, HPV, HB⟩
 case round =>
  clear HRt SV Rr RS HPV HP HB HBP; obtain ⟨t, rest, ht, rfl, HRt, SV, Rr, RS, HP, HB⟩ := hrel; obtain ⟨w4, rfl⟩ := eY wr; by_cases htl : t < b.length
  ·skip
   have i1 : (0 : Int) <= (t : Int) := by omega
   have i2 : (t : Int) < (b.length : Int) := by omega
   have htl2 : t < l.length := by rw [Hl.o]; exact htl
   obtain ⟨row, hrow⟩ := eX (b[t]); have HRow := hZ hrow; obtain ⟨k1, k2, k3⟩ := HI.o.row t htl; rw [hrow] at k1 k2 k3; have Hrl := hZ k1; have Srow : Hid (∀ x ∈ row, Sz 64 x) := hZ (fun x hx => by have := HFb.o row (hrow ▸ List.getElem_mem _) x hx; exact qN8 this.1 this.2); have Hlow : Hid (∀ c, c < pv row -> vec row c = 0) := hZ (fun c hc => qJu hc); obtain ⟨bp, capp, hvp, hbp, n2⟩ := HP.o.at_ t (by simpa using htl); rw [List.length_map] at hvp; injection hvp with f1 f2 f3; subst f1; clear f2 f3; rw [List.getElem_map, hrow] at n2; have HBp : Hid (bp < g) := hZ (HPG.o bp rfl (by omega)); have HSt := hZ (fun rest' => HRt.o.step (rest' := rest') HI.o htl); have HFl := hZ (HRt.o.fails HI.o htl); rw [hrow] at HSt HFl; have Hlen := hZ HRt.o.len; obtain ⟨p, hp⟩ := eX (pv row); rw [hp] at n2 k2 k3 HSt HFl Hlow; clear hrow hp k1; have j1 : (0 : Int) <= (p : Int) := by omega
   have j2 : (p : Int) < (n : Int) := by omega
   have Hpr : Hid (p < rest.length) := hZ (by rw [Hlen.o]; exact k2); have Hprow : Hid (p < row.length) := hZ (by rw [Hrl.o]; exact k2); obtain ⟨x, hx⟩ := eX (rest[p]'Hpr.o); obtain ⟨y, hy⟩ := eX (row[p]'Hprow.o); have Hx := hZ hx; have Hy := hZ hy; have Sx : Hid (Sz (66 * t + 64) x) := hZ (hx ▸ SV.o _ (List.getElem_mem _)); have Sy : Hid (Sz 64 y) := hZ (hy ▸ Srow.o _ (List.getElem_mem _)); rw [qAi Hprow.o, hy] at k3; obtain ⟨gr, hgr⟩ := eX (l[t].1); have Hgr := hZ hgr; have Hcr := hZ (HCap.o t htl2); clear hx hy hgr; have HVp : Hid (vec rest p = x /\ vec row p = y) := hZ ⟨by rw [qAi Hpr.o, Hx.o], by rw [qAi Hprow.o, Hy.o]⟩; rw [HVp.o.1, HVp.o.2] at HFl; have ht64 : 66 * t + 64 <= 4300 := by omega
   have RP : Hid (∀ w, qB7 w R l n b -> qAB w gr row) := hZ (fun w h => by have := (h.rows.row t htl2).1; rw [Hgr.o, HRow.o] at this; exact this)
   go_wp2_with fail
   clear n2; refine qC9 (fun t ds a w' => ∃ v49 v50 v51 v52 v53 v54 v55 v56 v57 v58 v59 v60 v48 v61 v62 v63 b11 b12, a = ⟨(((((((((((((((((((t).setIfInBounds 11 (.pointer (some ⟨b11, 0, none⟩))).setIfInBounds 12 (.pointer (some ⟨b12, 0, none⟩))).setIfInBounds 13 (.int .i64 0)).setIfInBounds 49 v49).setIfInBounds 50 v50).setIfInBounds 51 v51).setIfInBounds 52 v52).setIfInBounds 53 v53).setIfInBounds 54 v54).setIfInBounds 55 v55).setIfInBounds 56 v56).setIfInBounds 57 v57).setIfInBounds 58 v58).setIfInBounds 59 v59).setIfInBounds 60 v60).setIfInBounds 48 v48).setIfInBounds 61 v61).setIfInBounds 62 v62).setIfInBounds 63 v63, ds⟩ /\ Hid (Bx w' b11 (x / y)) /\ Hid (Bx w' b12 (x % y)) /\ Hid (Below w4.heap.size w4 w') /\ Hid (b11 ≠ b12 /\ w4.heap.size <= b11 /\ w4.heap.size <= b12)) ?_ ?_
   ·skip
    have HJ := hZ (Below.refl w4.heap.size w4); obtain ⟨w5, hwd⟩ := eX w4.drew; have hB := dB hwd; replace Rr := Rr.b hB; replace RS := RS.b hB; replace HP := HP.b hB; replace HJ := bT HJ hB; clear hB; have HBr : Hid (qAb (fun b => w5.heap.size <= b) w5 w5) := hZ (qAb.refl _ _); refine qAG [19] (fun w' => qAb (fun b => w5.heap.size <= b) w5 w') (by kernel_rfl) (by rw [hwd]; exact qAb.refl _ _) (fun hHeld => ?_); rw [hwd] at hHeld ⊢; clear hwd; have e0 := RS.o.get t htl2; rw [Hgr.o, Hcr.o] at e0; have Rp := hZ (RP.o _ RS.o); obtain ⟨s_x, a_x, n_x, c_x, d0x, d1x, h_x⟩ := Rr.o.get p Hpr.o; rw [Hx.o] at h_x; have Vx := hZ h_x; clear h_x; obtain ⟨s_y, a_y, n_y, c_y, d0y, d1y, h_y⟩ := Rp.o.get p Hprow.o; rw [Hy.o] at h_y; have Vy := hZ h_y; clear h_y; refine pU 0 49 ?_; refine pU 1 50 ?_; refine pU 2 51 ?_; refine tV 3 52 (cT (Nat.not_le_of_lt Rr.o.lt) d0x Rr.o.lt) (cT (Nat.not_le_of_lt Rr.o.lt) d1x Rr.o.lt) ?_; refine pU 4 53 ?_; refine pU 5 54 ?_; refine pU 6 55 ?_; refine tU 7 56 (cT (Nat.not_le_of_lt RS.o.lt) e0 RS.o.lt) ?_; refine pU 8 57 ?_; refine pU 9 58 ?_; refine tV 10 59 (cT (Nat.not_le_of_lt Rp.o.lt) d0y Rp.o.lt) (cT (Nat.not_le_of_lt Rp.o.lt) d1y Rp.o.lt) ?_; clear e0 d0x d1x d0y d1y Rp RS Rr HP; have HJs : Hid (w4.heap.size <= w5.heap.size) := hZ HJ.o.size; refine qKD [11, 16, 17] (by kernel_rfl) (by simp) ⟨qA8 11 rfl (fun K hK => ?_), qA8 16 rfl (fun K hK => ?_), qA8 17 rfl (fun K hK => ?_), trivial⟩
    ·skip
     go_simp; refine (qIW (w := w5) Vx.o Vy.o Sx.o Sy.o (by omega) (by omega) (by omega)).mono ?_; rintro e w6 ⟨s_q, a_q, n_q, c_q, s_r, a_r, n_r, c_r, rfl, h_q, h_r, hB⟩; have Vq := hZ h_q; have Vr := hZ h_r; replace HBr := oT HBr hB; replace Vx := Vx.b hB; replace Vy := Vy.b hB; replace HJ := bT HJ hB; clear hB; clear h_q h_r; refine hK.out _ _ HBr.o (fun hHeld => ?_); clear hK K
     try simp only [Act.put, sX1, sX2, sX3]
     refine pU 12 48 ?_; refine pU 13 61 ?_; refine pU 14 62 ?_; refine pU 15 63 ?_; refine qKD [16, 17] (by kernel_rfl) (by simp) ⟨qA8 16 rfl (fun K hK => ?_), qA8 17 rfl (fun K hK => ?_), trivial⟩
     ·skip
      go_simp; obtain ⟨w7, hw⟩ := eX (w6.alloc (.cells #[.bool false, .slice none 0 0] 73)); have hB := aB hw; obtain ⟨b11, hb⟩ := eX w6.heap.size; have Fq' : Hid (Bx w7 b11 0) := hZ (by rw [<- hw, <- hb]; exact Bx.new (qAn _)); have hge_b11 : w5.heap.size <= b11 := by rw [<- hb]; exact HBr.o.size
      replace HBr := oT HBr hB; replace Vx := Vx.b hB; replace Vy := Vy.b hB; replace Vq := Vq.b hB; replace Vr := Vr.b hB; replace HJ := bT HJ hB; clear hB; have Fq := Fq'; clear Fq'; rw [hw]
      try rw [hb]
      clear hw hb; refine hK.out _ _ HBr.o (fun hHeld => ?_); clear hK K
      try simp only [Act.put, sX1, sX2, sX3]
      refine eU 17 fun K hK => ?_; go_simp; obtain ⟨w8, hw⟩ := eX (w7.alloc (.cells #[.bool false, .slice none 0 0] 73)); have hB := aB hw; obtain ⟨b12, hb⟩ := eX w7.heap.size; have Fr' : Hid (Bx w8 b12 0) := hZ (by rw [<- hw, <- hb]; exact Bx.new (qAn _)); have hge_b12 : w5.heap.size <= b12 := by rw [<- hb]; exact HBr.o.size
      have hne_b11_b12 : b11 < b12 := by rw [<- hb]; exact Fq.o.lt
      replace HBr := oT HBr hB; replace Vx := Vx.b hB; replace Vy := Vy.b hB; replace Vq := Vq.b hB; replace Vr := Vr.b hB; replace Fq := Fq.b hB; replace HJ := bT HJ hB; clear hB; have Fr := Fr'; clear Fr'; rw [hw]
      try rw [hb]
      clear hw hb; refine hK.out _ _ HBr.o (fun hHeld => ?_); clear hK K
      try simp only [Act.put, sX1, sX2, sX3]
      obtain ⟨s_9, a_9, n_9, c_9, t_9, -⟩ := Fq.o; have e0 := t_9.cell0; have e1 := t_9.cell1; have e2 := t_9.frozen 0; have e3 := t_9.frozen 1; clear t_9; have hn9 : qAe w8 (b11) := Fq.o.noInt; obtain ⟨w9, hw⟩ := eX ((w8.setCell ⟨b11, 0, none⟩ (.bool s_q)).setCell ⟨b11, 1, none⟩ (.slice a_q n_q c_q)); have hw2 : st2 w8 (b11) (0) (1) s_q a_q n_q c_q = w9 := hw; replace Fq := hZ (Bx.put Fq.o Vq.o); rw [hw2] at Fq; replace Vx := hZ (Vx.o.offe hw2 hn9); replace Vy := hZ (Vy.o.offe hw2 hn9); replace Vq := hZ (Vq.o.offe hw2 hn9); replace Vr := hZ (Vr.o.offe hw2 hn9); replace Fr := hZ (Fr.o.offe hw2 hn9 (by omega)); replace HJ := hZ (bO hw2 HJ.o (by have := HJs.o; omega)); clear hw2 hn9; replace HBr := hZ (HBr.o.offs hw hge_b11); refine eU 18 fun K hK => ?_; go_simp
      try rw [hw]
      refine hK.out _ _ HBr.o (fun hHeld => ?_); clear hK K
      try simp only [Act.put, sX1, sX2, sX3]
      clear hw e0 e1 e2 e3; obtain ⟨s_9, a_9, n_9, c_9, t_9, -⟩ := Fr.o; have e0 := t_9.cell0; have e1 := t_9.cell1; have e2 := t_9.frozen 0; have e3 := t_9.frozen 1; clear t_9; have hn9 : qAe w9 (b12) := Fr.o.noInt; obtain ⟨w10, hw⟩ := eX ((w9.setCell ⟨b12, 0, none⟩ (.bool s_r)).setCell ⟨b12, 1, none⟩ (.slice a_r n_r c_r)); have hw2 : st2 w9 (b12) (0) (1) s_r a_r n_r c_r = w10 := hw; replace Fr := hZ (Bx.put Fr.o Vr.o); rw [hw2] at Fr; replace Vx := hZ (Vx.o.offe hw2 hn9); replace Vy := hZ (Vy.o.offe hw2 hn9); replace Vq := hZ (Vq.o.offe hw2 hn9); replace Vr := hZ (Vr.o.offe hw2 hn9); replace Fq := hZ (Fq.o.offe hw2 hn9 (by omega)); replace HJ := hZ (bO hw2 HJ.o (by have := HJs.o; omega)); clear hw2 hn9; refine lU 19 fun K hK => ?_; go_simp
      try rw [hw]
      refine hK.out _ _ ?_; clear hK K
      try simp only [Act.put, sX1, sX2, sX3]
      clear hw e0 e1 e2 e3; refine pU 20 13 ?_; refine dU ?_; clear hHeld; refine qAs ⟨_, _, _, _, _, _, _, _, _, _, _, _, _, _, _, _, _, _, by first | rfl | (simp only [sX1, sX2, sX3]; rfl), Fq, Fr, HJ, hZ (by have := HJs.o; omega)⟩
     ·skip
      go_simp; obtain ⟨w7, hw⟩ := eX (w6.alloc (.cells #[.bool false, .slice none 0 0] 73)); have hB := aB hw; obtain ⟨b12, hb⟩ := eX w6.heap.size; have Fr' : Hid (Bx w7 b12 0) := hZ (by rw [<- hw, <- hb]; exact Bx.new (qAn _)); have hge_b12 : w5.heap.size <= b12 := by rw [<- hb]; exact HBr.o.size
      replace HBr := oT HBr hB; replace Vx := Vx.b hB; replace Vy := Vy.b hB; replace Vq := Vq.b hB; replace Vr := Vr.b hB; replace HJ := bT HJ hB; clear hB; have Fr := Fr'; clear Fr'; rw [hw]
      try rw [hb]
      clear hw hb; refine hK.out _ _ HBr.o (fun hHeld => ?_); clear hK K
      try simp only [Act.put, sX1, sX2, sX3]
      refine eU 16 fun K hK => ?_; go_simp; obtain ⟨w8, hw⟩ := eX (w7.alloc (.cells #[.bool false, .slice none 0 0] 73)); have hB := aB hw; obtain ⟨b11, hb⟩ := eX w7.heap.size; have Fq' : Hid (Bx w8 b11 0) := hZ (by rw [<- hw, <- hb]; exact Bx.new (qAn _)); have hge_b11 : w5.heap.size <= b11 := by rw [<- hb]; exact HBr.o.size
      have hne_b12_b11 : b12 < b11 := by rw [<- hb]; exact Fr.o.lt
      replace HBr := oT HBr hB; replace Vx := Vx.b hB; replace Vy := Vy.b hB; replace Vq := Vq.b hB; replace Vr := Vr.b hB; replace Fr := Fr.b hB; replace HJ := bT HJ hB; clear hB; have Fq := Fq'; clear Fq'; rw [hw]
      try rw [hb]
      clear hw hb; refine hK.out _ _ HBr.o (fun hHeld => ?_); clear hK K
      try simp only [Act.put, sX1, sX2, sX3]
      obtain ⟨s_9, a_9, n_9, c_9, t_9, -⟩ := Fq.o; have e0 := t_9.cell0; have e1 := t_9.cell1; have e2 := t_9.frozen 0; have e3 := t_9.frozen 1; clear t_9; have hn9 : qAe w8 (b11) := Fq.o.noInt; obtain ⟨w9, hw⟩ := eX ((w8.setCell ⟨b11, 0, none⟩ (.bool s_q)).setCell ⟨b11, 1, none⟩ (.slice a_q n_q c_q)); have hw2 : st2 w8 (b11) (0) (1) s_q a_q n_q c_q = w9 := hw; replace Fq := hZ (Bx.put Fq.o Vq.o); rw [hw2] at Fq; replace Vx := hZ (Vx.o.offe hw2 hn9); replace Vy := hZ (Vy.o.offe hw2 hn9); replace Vq := hZ (Vq.o.offe hw2 hn9); replace Vr := hZ (Vr.o.offe hw2 hn9); replace Fr := hZ (Fr.o.offe hw2 hn9 (by omega)); replace HJ := hZ (bO hw2 HJ.o (by have := HJs.o; omega)); clear hw2 hn9; replace HBr := hZ (HBr.o.offs hw hge_b11); refine eU 18 fun K hK => ?_; go_simp
      try rw [hw]
      refine hK.out _ _ HBr.o (fun hHeld => ?_); clear hK K
      try simp only [Act.put, sX1, sX2, sX3]
      clear hw e0 e1 e2 e3; obtain ⟨s_9, a_9, n_9, c_9, t_9, -⟩ := Fr.o; have e0 := t_9.cell0; have e1 := t_9.cell1; have e2 := t_9.frozen 0; have e3 := t_9.frozen 1; clear t_9; have hn9 : qAe w9 (b12) := Fr.o.noInt; obtain ⟨w10, hw⟩ := eX ((w9.setCell ⟨b12, 0, none⟩ (.bool s_r)).setCell ⟨b12, 1, none⟩ (.slice a_r n_r c_r)); have hw2 : st2 w9 (b12) (0) (1) s_r a_r n_r c_r = w10 := hw; replace Fr := hZ (Bx.put Fr.o Vr.o); rw [hw2] at Fr; replace Vx := hZ (Vx.o.offe hw2 hn9); replace Vy := hZ (Vy.o.offe hw2 hn9); replace Vq := hZ (Vq.o.offe hw2 hn9); replace Vr := hZ (Vr.o.offe hw2 hn9); replace Fq := hZ (Fq.o.offe hw2 hn9 (by omega)); replace HJ := hZ (bO hw2 HJ.o (by have := HJs.o; omega)); clear hw2 hn9; refine lU 19 fun K hK => ?_; go_simp
      try rw [hw]
      refine hK.out _ _ ?_; clear hK K
      try simp only [Act.put, sX1, sX2, sX3]
      clear hw e0 e1 e2 e3; refine pU 20 13 ?_; refine dU ?_; clear hHeld; refine qAs ⟨_, _, _, _, _, _, _, _, _, _, _, _, _, _, _, _, _, _, by first | rfl | (simp only [sX1, sX2, sX3]; rfl), Fq, Fr, HJ, hZ (by have := HJs.o; omega)⟩
    ·skip
     go_simp; obtain ⟨w6, hw⟩ := eX (w5.alloc (.cells #[.bool false, .slice none 0 0] 73)); have hB := aB hw; obtain ⟨b11, hb⟩ := eX w5.heap.size; have Fq' : Hid (Bx w6 b11 0) := hZ (by rw [<- hw, <- hb]; exact Bx.new (qAn _)); have hge_b11 : w5.heap.size <= b11 := by rw [<- hb]; exact HBr.o.size
     replace HBr := oT HBr hB; replace Vx := Vx.b hB; replace Vy := Vy.b hB; replace HJ := bT HJ hB; clear hB; have Fq := Fq'; clear Fq'; rw [hw]
     try rw [hb]
     clear hw hb; refine hK.out _ _ HBr.o (fun hHeld => ?_); clear hK K
     try simp only [Act.put, sX1, sX2, sX3]
     refine qKD [11, 17] (by kernel_rfl) (by simp) ⟨qA8 11 rfl (fun K hK => ?_), qA8 17 rfl (fun K hK => ?_), trivial⟩
     ·skip
      go_simp; refine (qIW (w := w6) Vx.o Vy.o Sx.o Sy.o (by omega) (by omega) (by omega)).mono ?_; rintro e w7 ⟨s_q, a_q, n_q, c_q, s_r, a_r, n_r, c_r, rfl, h_q, h_r, hB⟩; have Vq := hZ h_q; have Vr := hZ h_r; replace HBr := oT HBr hB; replace Vx := Vx.b hB; replace Vy := Vy.b hB; replace Fq := Fq.b hB; replace HJ := bT HJ hB; clear hB; clear h_q h_r; refine hK.out _ _ HBr.o (fun hHeld => ?_); clear hK K
      try simp only [Act.put, sX1, sX2, sX3]
      refine pU 12 48 ?_; refine pU 13 61 ?_; refine pU 14 62 ?_; refine pU 15 63 ?_; refine eU 17 fun K hK => ?_; go_simp; obtain ⟨w8, hw⟩ := eX (w7.alloc (.cells #[.bool false, .slice none 0 0] 73)); have hB := aB hw; obtain ⟨b12, hb⟩ := eX w7.heap.size; have Fr' : Hid (Bx w8 b12 0) := hZ (by rw [<- hw, <- hb]; exact Bx.new (qAn _)); have hge_b12 : w5.heap.size <= b12 := by rw [<- hb]; exact HBr.o.size
      have hne_b11_b12 : b11 < b12 := by rw [<- hb]; exact Fq.o.lt
      replace HBr := oT HBr hB; replace Vx := Vx.b hB; replace Vy := Vy.b hB; replace Fq := Fq.b hB; replace Vq := Vq.b hB; replace Vr := Vr.b hB; replace HJ := bT HJ hB; clear hB; have Fr := Fr'; clear Fr'; rw [hw]
      try rw [hb]
      clear hw hb; refine hK.out _ _ HBr.o (fun hHeld => ?_); clear hK K
      try simp only [Act.put, sX1, sX2, sX3]
      obtain ⟨s_9, a_9, n_9, c_9, t_9, -⟩ := Fq.o; have e0 := t_9.cell0; have e1 := t_9.cell1; have e2 := t_9.frozen 0; have e3 := t_9.frozen 1; clear t_9; have hn9 : qAe w8 (b11) := Fq.o.noInt; obtain ⟨w9, hw⟩ := eX ((w8.setCell ⟨b11, 0, none⟩ (.bool s_q)).setCell ⟨b11, 1, none⟩ (.slice a_q n_q c_q)); have hw2 : st2 w8 (b11) (0) (1) s_q a_q n_q c_q = w9 := hw; replace Fq := hZ (Bx.put Fq.o Vq.o); rw [hw2] at Fq; replace Vx := hZ (Vx.o.offe hw2 hn9); replace Vy := hZ (Vy.o.offe hw2 hn9); replace Vq := hZ (Vq.o.offe hw2 hn9); replace Vr := hZ (Vr.o.offe hw2 hn9); replace Fr := hZ (Fr.o.offe hw2 hn9 (by omega)); replace HJ := hZ (bO hw2 HJ.o (by have := HJs.o; omega)); clear hw2 hn9; replace HBr := hZ (HBr.o.offs hw hge_b11); refine eU 18 fun K hK => ?_; go_simp
      try rw [hw]
      refine hK.out _ _ HBr.o (fun hHeld => ?_); clear hK K
      try simp only [Act.put, sX1, sX2, sX3]
      clear hw e0 e1 e2 e3; obtain ⟨s_9, a_9, n_9, c_9, t_9, -⟩ := Fr.o; have e0 := t_9.cell0; have e1 := t_9.cell1; have e2 := t_9.frozen 0; have e3 := t_9.frozen 1; clear t_9; have hn9 : qAe w9 (b12) := Fr.o.noInt; obtain ⟨w10, hw⟩ := eX ((w9.setCell ⟨b12, 0, none⟩ (.bool s_r)).setCell ⟨b12, 1, none⟩ (.slice a_r n_r c_r)); have hw2 : st2 w9 (b12) (0) (1) s_r a_r n_r c_r = w10 := hw; replace Fr := hZ (Bx.put Fr.o Vr.o); rw [hw2] at Fr; replace Vx := hZ (Vx.o.offe hw2 hn9); replace Vy := hZ (Vy.o.offe hw2 hn9); replace Fq := hZ (Fq.o.offe hw2 hn9 (by omega)); replace Vq := hZ (Vq.o.offe hw2 hn9); replace Vr := hZ (Vr.o.offe hw2 hn9); replace HJ := hZ (bO hw2 HJ.o (by have := HJs.o; omega)); clear hw2 hn9; refine lU 19 fun K hK => ?_; go_simp
      try rw [hw]
      refine hK.out _ _ ?_; clear hK K
      try simp only [Act.put, sX1, sX2, sX3]
      clear hw e0 e1 e2 e3; refine pU 20 13 ?_; refine dU ?_; clear hHeld; refine qAs ⟨_, _, _, _, _, _, _, _, _, _, _, _, _, _, _, _, _, _, by first | rfl | (simp only [sX1, sX2, sX3]; rfl), Fq, Fr, HJ, hZ (by have := HJs.o; omega)⟩
     ·skip
      go_simp; obtain ⟨w7, hw⟩ := eX (w6.alloc (.cells #[.bool false, .slice none 0 0] 73)); have hB := aB hw; obtain ⟨b12, hb⟩ := eX w6.heap.size; have Fr' : Hid (Bx w7 b12 0) := hZ (by rw [<- hw, <- hb]; exact Bx.new (qAn _)); have hge_b12 : w5.heap.size <= b12 := by rw [<- hb]; exact HBr.o.size
      have hne_b11_b12 : b11 < b12 := by rw [<- hb]; exact Fq.o.lt
      replace HBr := oT HBr hB; replace Vx := Vx.b hB; replace Vy := Vy.b hB; replace Fq := Fq.b hB; replace HJ := bT HJ hB; clear hB; have Fr := Fr'; clear Fr'; rw [hw]
      try rw [hb]
      clear hw hb; refine hK.out _ _ HBr.o (fun hHeld => ?_); clear hK K
      try simp only [Act.put, sX1, sX2, sX3]
      refine eU 11 fun K hK => ?_; go_simp; refine (qIW (w := w7) Vx.o Vy.o Sx.o Sy.o (by omega) (by omega) (by omega)).mono ?_; rintro e w8 ⟨s_q, a_q, n_q, c_q, s_r, a_r, n_r, c_r, rfl, h_q, h_r, hB⟩; have Vq := hZ h_q; have Vr := hZ h_r; replace HBr := oT HBr hB; replace Vx := Vx.b hB; replace Vy := Vy.b hB; replace Fq := Fq.b hB; replace Fr := Fr.b hB; replace HJ := bT HJ hB; clear hB; clear h_q h_r; refine hK.out _ _ HBr.o (fun hHeld => ?_); clear hK K
      try simp only [Act.put, sX1, sX2, sX3]
      refine pU 12 48 ?_; refine pU 13 61 ?_; refine pU 14 62 ?_; refine pU 15 63 ?_; obtain ⟨s_9, a_9, n_9, c_9, t_9, -⟩ := Fq.o; have e0 := t_9.cell0; have e1 := t_9.cell1; have e2 := t_9.frozen 0; have e3 := t_9.frozen 1; clear t_9; have hn9 : qAe w8 (b11) := Fq.o.noInt; obtain ⟨w9, hw⟩ := eX ((w8.setCell ⟨b11, 0, none⟩ (.bool s_q)).setCell ⟨b11, 1, none⟩ (.slice a_q n_q c_q)); have hw2 : st2 w8 (b11) (0) (1) s_q a_q n_q c_q = w9 := hw; replace Fq := hZ (Bx.put Fq.o Vq.o); rw [hw2] at Fq; replace Vx := hZ (Vx.o.offe hw2 hn9); replace Vy := hZ (Vy.o.offe hw2 hn9); replace Fr := hZ (Fr.o.offe hw2 hn9 (by omega)); replace Vq := hZ (Vq.o.offe hw2 hn9); replace Vr := hZ (Vr.o.offe hw2 hn9); replace HJ := hZ (bO hw2 HJ.o (by have := HJs.o; omega)); clear hw2 hn9; replace HBr := hZ (HBr.o.offs hw hge_b11); refine eU 18 fun K hK => ?_; go_simp
      try rw [hw]
      refine hK.out _ _ HBr.o (fun hHeld => ?_); clear hK K
      try simp only [Act.put, sX1, sX2, sX3]
      clear hw e0 e1 e2 e3; obtain ⟨s_9, a_9, n_9, c_9, t_9, -⟩ := Fr.o; have e0 := t_9.cell0; have e1 := t_9.cell1; have e2 := t_9.frozen 0; have e3 := t_9.frozen 1; clear t_9; have hn9 : qAe w9 (b12) := Fr.o.noInt; obtain ⟨w10, hw⟩ := eX ((w9.setCell ⟨b12, 0, none⟩ (.bool s_r)).setCell ⟨b12, 1, none⟩ (.slice a_r n_r c_r)); have hw2 : st2 w9 (b12) (0) (1) s_r a_r n_r c_r = w10 := hw; replace Fr := hZ (Bx.put Fr.o Vr.o); rw [hw2] at Fr; replace Vx := hZ (Vx.o.offe hw2 hn9); replace Vy := hZ (Vy.o.offe hw2 hn9); replace Fq := hZ (Fq.o.offe hw2 hn9 (by omega)); replace Vq := hZ (Vq.o.offe hw2 hn9); replace Vr := hZ (Vr.o.offe hw2 hn9); replace HJ := hZ (bO hw2 HJ.o (by have := HJs.o; omega)); clear hw2 hn9; refine lU 19 fun K hK => ?_; go_simp
      try rw [hw]
      refine hK.out _ _ ?_; clear hK K
      try simp only [Act.put, sX1, sX2, sX3]
      clear hw e0 e1 e2 e3; refine pU 20 13 ?_; refine dU ?_; clear hHeld; refine qAs ⟨_, _, _, _, _, _, _, _, _, _, _, _, _, _, _, _, _, _, by first | rfl | (simp only [sX1, sX2, sX3]; rfl), Fq, Fr, HJ, hZ (by have := HJs.o; omega)⟩
    ·skip
     go_simp; obtain ⟨w6, hw⟩ := eX (w5.alloc (.cells #[.bool false, .slice none 0 0] 73)); have hB := aB hw; obtain ⟨b12, hb⟩ := eX w5.heap.size; have Fr' : Hid (Bx w6 b12 0) := hZ (by rw [<- hw, <- hb]; exact Bx.new (qAn _)); have hge_b12 : w5.heap.size <= b12 := by rw [<- hb]; exact HBr.o.size
     replace HBr := oT HBr hB; replace Vx := Vx.b hB; replace Vy := Vy.b hB; replace HJ := bT HJ hB; clear hB; have Fr := Fr'; clear Fr'; rw [hw]
     try rw [hb]
     clear hw hb; refine hK.out _ _ HBr.o (fun hHeld => ?_); clear hK K
     try simp only [Act.put, sX1, sX2, sX3]
     refine qKD [11, 16] (by kernel_rfl) (by simp) ⟨qA8 11 rfl (fun K hK => ?_), qA8 16 rfl (fun K hK => ?_), trivial⟩
     ·skip
      go_simp; refine (qIW (w := w6) Vx.o Vy.o Sx.o Sy.o (by omega) (by omega) (by omega)).mono ?_; rintro e w7 ⟨s_q, a_q, n_q, c_q, s_r, a_r, n_r, c_r, rfl, h_q, h_r, hB⟩; have Vq := hZ h_q; have Vr := hZ h_r; replace HBr := oT HBr hB; replace Vx := Vx.b hB; replace Vy := Vy.b hB; replace Fr := Fr.b hB; replace HJ := bT HJ hB; clear hB; clear h_q h_r; refine hK.out _ _ HBr.o (fun hHeld => ?_); clear hK K
      try simp only [Act.put, sX1, sX2, sX3]
      refine pU 12 48 ?_; refine pU 13 61 ?_; refine pU 14 62 ?_; refine pU 15 63 ?_; refine eU 16 fun K hK => ?_; go_simp; obtain ⟨w8, hw⟩ := eX (w7.alloc (.cells #[.bool false, .slice none 0 0] 73)); have hB := aB hw; obtain ⟨b11, hb⟩ := eX w7.heap.size; have Fq' : Hid (Bx w8 b11 0) := hZ (by rw [<- hw, <- hb]; exact Bx.new (qAn _)); have hge_b11 : w5.heap.size <= b11 := by rw [<- hb]; exact HBr.o.size
      have hne_b12_b11 : b12 < b11 := by rw [<- hb]; exact Fr.o.lt
      replace HBr := oT HBr hB; replace Vx := Vx.b hB; replace Vy := Vy.b hB; replace Fr := Fr.b hB; replace Vq := Vq.b hB; replace Vr := Vr.b hB; replace HJ := bT HJ hB; clear hB; have Fq := Fq'; clear Fq'; rw [hw]
      try rw [hb]
      clear hw hb; refine hK.out _ _ HBr.o (fun hHeld => ?_); clear hK K
      try simp only [Act.put, sX1, sX2, sX3]
      obtain ⟨s_9, a_9, n_9, c_9, t_9, -⟩ := Fq.o; have e0 := t_9.cell0; have e1 := t_9.cell1; have e2 := t_9.frozen 0; have e3 := t_9.frozen 1; clear t_9; have hn9 : qAe w8 (b11) := Fq.o.noInt; obtain ⟨w9, hw⟩ := eX ((w8.setCell ⟨b11, 0, none⟩ (.bool s_q)).setCell ⟨b11, 1, none⟩ (.slice a_q n_q c_q)); have hw2 : st2 w8 (b11) (0) (1) s_q a_q n_q c_q = w9 := hw; replace Fq := hZ (Bx.put Fq.o Vq.o); rw [hw2] at Fq; replace Vx := hZ (Vx.o.offe hw2 hn9); replace Vy := hZ (Vy.o.offe hw2 hn9); replace Fr := hZ (Fr.o.offe hw2 hn9 (by omega)); replace Vq := hZ (Vq.o.offe hw2 hn9); replace Vr := hZ (Vr.o.offe hw2 hn9); replace HJ := hZ (bO hw2 HJ.o (by have := HJs.o; omega)); clear hw2 hn9; replace HBr := hZ (HBr.o.offs hw hge_b11); refine eU 18 fun K hK => ?_; go_simp
      try rw [hw]
      refine hK.out _ _ HBr.o (fun hHeld => ?_); clear hK K
      try simp only [Act.put, sX1, sX2, sX3]
      clear hw e0 e1 e2 e3; obtain ⟨s_9, a_9, n_9, c_9, t_9, -⟩ := Fr.o; have e0 := t_9.cell0; have e1 := t_9.cell1; have e2 := t_9.frozen 0; have e3 := t_9.frozen 1; clear t_9; have hn9 : qAe w9 (b12) := Fr.o.noInt; obtain ⟨w10, hw⟩ := eX ((w9.setCell ⟨b12, 0, none⟩ (.bool s_r)).setCell ⟨b12, 1, none⟩ (.slice a_r n_r c_r)); have hw2 : st2 w9 (b12) (0) (1) s_r a_r n_r c_r = w10 := hw; replace Fr := hZ (Bx.put Fr.o Vr.o); rw [hw2] at Fr; replace Vx := hZ (Vx.o.offe hw2 hn9); replace Vy := hZ (Vy.o.offe hw2 hn9); replace Vq := hZ (Vq.o.offe hw2 hn9); replace Vr := hZ (Vr.o.offe hw2 hn9); replace Fq := hZ (Fq.o.offe hw2 hn9 (by omega)); replace HJ := hZ (bO hw2 HJ.o (by have := HJs.o; omega)); clear hw2 hn9; refine lU 19 fun K hK => ?_; go_simp
      try rw [hw]
      refine hK.out _ _ ?_; clear hK K
      try simp only [Act.put, sX1, sX2, sX3]
      clear hw e0 e1 e2 e3; refine pU 20 13 ?_; refine dU ?_; clear hHeld; refine qAs ⟨_, _, _, _, _, _, _, _, _, _, _, _, _, _, _, _, _, _, by first | rfl | (simp only [sX1, sX2, sX3]; rfl), Fq, Fr, HJ, hZ (by have := HJs.o; omega)⟩
     ·skip
      go_simp; obtain ⟨w7, hw⟩ := eX (w6.alloc (.cells #[.bool false, .slice none 0 0] 73)); have hB := aB hw; obtain ⟨b11, hb⟩ := eX w6.heap.size; have Fq' : Hid (Bx w7 b11 0) := hZ (by rw [<- hw, <- hb]; exact Bx.new (qAn _)); have hge_b11 : w5.heap.size <= b11 := by rw [<- hb]; exact HBr.o.size
      have hne_b12_b11 : b12 < b11 := by rw [<- hb]; exact Fr.o.lt
      replace HBr := oT HBr hB; replace Vx := Vx.b hB; replace Vy := Vy.b hB; replace Fr := Fr.b hB; replace HJ := bT HJ hB; clear hB; have Fq := Fq'; clear Fq'; rw [hw]
      try rw [hb]
      clear hw hb; refine hK.out _ _ HBr.o (fun hHeld => ?_); clear hK K
      try simp only [Act.put, sX1, sX2, sX3]
      refine eU 11 fun K hK => ?_; go_simp; refine (qIW (w := w7) Vx.o Vy.o Sx.o Sy.o (by omega) (by omega) (by omega)).mono ?_; rintro e w8 ⟨s_q, a_q, n_q, c_q, s_r, a_r, n_r, c_r, rfl, h_q, h_r, hB⟩; have Vq := hZ h_q; have Vr := hZ h_r; replace HBr := oT HBr hB; replace Vx := Vx.b hB; replace Vy := Vy.b hB; replace Fr := Fr.b hB; replace Fq := Fq.b hB; replace HJ := bT HJ hB; clear hB; clear h_q h_r; refine hK.out _ _ HBr.o (fun hHeld => ?_); clear hK K
      try simp only [Act.put, sX1, sX2, sX3]
      refine pU 12 48 ?_; refine pU 13 61 ?_; refine pU 14 62 ?_; refine pU 15 63 ?_; obtain ⟨s_9, a_9, n_9, c_9, t_9, -⟩ := Fq.o; have e0 := t_9.cell0; have e1 := t_9.cell1; have e2 := t_9.frozen 0; have e3 := t_9.frozen 1; clear t_9; have hn9 : qAe w8 (b11) := Fq.o.noInt; obtain ⟨w9, hw⟩ := eX ((w8.setCell ⟨b11, 0, none⟩ (.bool s_q)).setCell ⟨b11, 1, none⟩ (.slice a_q n_q c_q)); have hw2 : st2 w8 (b11) (0) (1) s_q a_q n_q c_q = w9 := hw; replace Fq := hZ (Bx.put Fq.o Vq.o); rw [hw2] at Fq; replace Vx := hZ (Vx.o.offe hw2 hn9); replace Vy := hZ (Vy.o.offe hw2 hn9); replace Fr := hZ (Fr.o.offe hw2 hn9 (by omega)); replace Vq := hZ (Vq.o.offe hw2 hn9); replace Vr := hZ (Vr.o.offe hw2 hn9); replace HJ := hZ (bO hw2 HJ.o (by have := HJs.o; omega)); clear hw2 hn9; replace HBr := hZ (HBr.o.offs hw hge_b11); refine eU 18 fun K hK => ?_; go_simp
      try rw [hw]
      refine hK.out _ _ HBr.o (fun hHeld => ?_); clear hK K
      try simp only [Act.put, sX1, sX2, sX3]
      clear hw e0 e1 e2 e3; obtain ⟨s_9, a_9, n_9, c_9, t_9, -⟩ := Fr.o; have e0 := t_9.cell0; have e1 := t_9.cell1; have e2 := t_9.frozen 0; have e3 := t_9.frozen 1; clear t_9; have hn9 : qAe w9 (b12) := Fr.o.noInt; obtain ⟨w10, hw⟩ := eX ((w9.setCell ⟨b12, 0, none⟩ (.bool s_r)).setCell ⟨b12, 1, none⟩ (.slice a_r n_r c_r)); have hw2 : st2 w9 (b12) (0) (1) s_r a_r n_r c_r = w10 := hw; replace Fr := hZ (Bx.put Fr.o Vr.o); rw [hw2] at Fr; replace Vx := hZ (Vx.o.offe hw2 hn9); replace Vy := hZ (Vy.o.offe hw2 hn9); replace Fq := hZ (Fq.o.offe hw2 hn9 (by omega)); replace Vq := hZ (Vq.o.offe hw2 hn9); replace Vr := hZ (Vr.o.offe hw2 hn9); replace HJ := hZ (bO hw2 HJ.o (by have := HJs.o; omega)); clear hw2 hn9; refine lU 19 fun K hK => ?_; go_simp
      try rw [hw]
      refine hK.out _ _ ?_; clear hK K
      try simp only [Act.put, sX1, sX2, sX3]
      clear hw e0 e1 e2 e3; refine pU 20 13 ?_; refine dU ?_; clear hHeld; refine qAs ⟨_, _, _, _, _, _, _, _, _, _, _, _, _, _, _, _, _, _, by first | rfl | (simp only [sX1, sX2, sX3]; rfl), Fq, Fr, HJ, hZ (by have := HJs.o; omega)⟩
   ·skip
    rintro a w5 ⟨v49, v50, v51, v52, v53, v54, v55, v56, v57, v58, v59, v60, v48, v61, v62, v63, b11, b12, rfl, Fq, Fr, HJ, Hxy⟩; simp only [sX1, sX2, sX3]; have hB := HJ.o; have Hbb : Hid (b11 ≠ b12 /\ g < b11 /\ g < b12) := hZ (by have h1 := Hxy.o; have h2 := Rr.o.lt; omega); clear HJ Hxy; replace Rr := Rr.b hB; replace RS := RS.b hB; replace HP := HP.b hB; replace HB := bT HB hB; clear hB; obtain ⟨qq, hqq⟩ := eX (x / y); obtain ⟨rr, hrr⟩ := eX (x % y); rw [hqq] at Fq; rw [hrr] at Fr HFl; have Hqq := hZ hqq; have Hrr := hZ hrr; have Sq : Hid (Sz (66 * t + 65) qq) := hZ (hqq ▸ Sx.o.div (by omega)); have Sr : Hid (Sz 64 rr) := hZ (hrr ▸ Sy.o.mod (by omega)); clear hqq hrr; obtain ⟨s_r, a_r, n_r, c_r, t_r, h_r⟩ := Fr.o; have d0r := t_r.cell0; have d1r := t_r.cell1; have Vr := hZ h_r; clear t_r h_r
    go_wp2_with fail
    clear d0r d1r; by_cases hr0 : rr = 0
    ·skip
     refine (qAz (w := w5) Vr.o Sr.o (by omega)).mono ?_; rintro e w6 ⟨he, hB⟩; rw [show qAN rr 0 = 0 by rw [hr0]; exact qAQ 0] at he; subst he; replace Rr := Rr.b hB; replace RS := RS.b hB; replace HP := HP.b hB; replace Fq := Fq.b hB; replace Fr := Fr.b hB; replace Vr := Vr.b hB; replace HB := bT HB hB; clear hB; clear Vr Fr
     go_wp2_with fail
     have HS := hZ (qGO.start (q := qq) Hlen.o Hlow.o); have SW : Hid (∀ x ∈ rest, Sz (66 * (t + 1) + 64) x) := hZ (fun x hx => (SV.o x hx).mono (by omega))
     go_loopw [14] (fun i wr => ∃ (k : Nat) (rest2 : List Int), p <= k /\ k <= n /\ i = .int .i64 k /\ Hid (qGO qq n p k row rest rest2) /\ Hid (∀ x ∈ rest2, Sz (66 * (t + 1) + 64) x) /\ Hid (qAB wr g rest2) /\ Hid (qB7 wr R l n b) /\ Hid (Bx wr b11 qq) /\ Hid (qAj wr (.slice (some ⟨bp, 0, none⟩) b.length cp) (b.map (fun r => (pv r : Int)))) /\ Hid (Below w0.heap.size w0 wr)) (fun i _ => n - (intOf i).toNat)
     case atStart => exact ⟨p, rest, by omega, by omega, rfl, HS, SW, Rr, RS, Fq, HP, HB⟩
     case round =>
      clear HS SW Rr RS Fq HP HB; obtain ⟨k, rest2, hpk, hk, rfl, HS, SW, Rr, RS, Fq, HP, HB⟩ := hrel; obtain ⟨w6, rfl⟩ := eY wr; by_cases hkn : k < n
      ·skip
       have k1 : (0 : Int) <= (k : Int) := by omega
       have k2 : (k : Int) < (n : Int) := by omega
       have Hkr : Hid (k < rest2.length) := hZ (by rw [HS.o.len]; exact hkn); have Hk0 : Hid (k < rest.length) := hZ (by rw [Hlen.o]; exact hkn); have Hkrow : Hid (k < row.length) := hZ (by rw [Hrl.o]; exact hkn)
       go_wp2_with fail
       obtain ⟨w7, hwd⟩ := eX w6.drew; have hB := dB hwd; replace Rr := Rr.b hB; replace RS := RS.b hB; replace Fq := Fq.b hB; replace HP := HP.b hB; replace HB := bT HB hB; clear hB; have HBr : Hid (qAb (fun b => False) w7 w7) := hZ (qAb.refl _ _); refine qAG [17] (fun w' => qAb (fun b => False) w7 w') (by kernel_rfl) (by rw [hwd]; exact qAb.refl _ _) (fun hHeld => ?_); rw [hwd] at hHeld ⊢; clear hwd; have e0 := RS.o.get t htl2; rw [Hgr.o, Hcr.o] at e0; have Rp := hZ (RP.o _ RS.o); obtain ⟨s_u, a_u, n_u, c_u, d0u, d1u, h_u⟩ := Rr.o.get k Hkr.o; obtain ⟨u, hu⟩ := eX (rest2[k]'Hkr.o); rw [hu] at h_u; have Vu := hZ h_u; have Hu := hZ hu; have Su : Hid (Sz (66 * t + 64) u) := hZ (by have h9 := HS.o.left k (Nat.le_refl _); rw [qAi Hkr.o, qAi Hk0.o, hu] at h9; rw [h9]; exact SV.o _ (List.getElem_mem _)); clear h_u hu; obtain ⟨s_v, a_v, n_v, c_v, d0v, d1v, h_v⟩ := Rp.o.get k Hkrow.o; obtain ⟨vz, hvz⟩ := eX (row[k]'Hkrow.o); rw [hvz] at h_v; have Vv := hZ h_v; have Hvz := hZ hvz; have Sv : Hid (Sz 64 vz) := hZ (hvz ▸ Srow.o _ (List.getElem_mem _)); clear h_v hvz; obtain ⟨s_q, a_q, n_q, c_q, t_q, h_q⟩ := Fq.o; have d0q := t_q.cell0; have d1q := t_q.cell1; have Vq := hZ h_q; clear t_q h_q; refine pU 0 74 ?_; refine pU 1 75 ?_; refine pU 2 76 ?_; refine pU 3 77 ?_; refine pU 4 78 ?_; refine tV 5 79 (cF d0u Rr.o.lt) (cF d1u Rr.o.lt) ?_; refine tV 6 80 (cF d0q Fq.o.lt) (cF d1q Fq.o.lt) ?_; refine pU 7 81 ?_; refine pU 8 82 ?_; refine pU 9 83 ?_; refine tU 10 84 (cF e0 RS.o.lt) ?_; refine pU 11 85 ?_; refine pU 12 86 ?_; refine tV 13 87 (cF d0v Rp.o.lt) (cF d1v Rp.o.lt) ?_; clear e0 d0u d1u d0v d1v Rp; clear d0q d1q
       skip
       refine eU 14 fun K hK => ?_; go_simp; refine (qBk (w := w7) Vq.o Vv.o Sq.o Sv.o (by omega)).mono ?_; rintro e w8 ⟨s_s, a_s, n_s, c_s, rfl, h_s, hB⟩; have Vs := hZ h_s; replace HBr := oT HBr hB; replace Rr := Rr.b hB; replace RS := RS.b hB; replace Fq := Fq.b hB; replace HP := HP.b hB; replace Vu := Vu.b hB; replace Vv := Vv.b hB; replace Vq := Vq.b hB; replace HB := bT HB hB; clear hB; clear h_s; refine hK.out _ _ HBr.o (fun hHeld => ?_); clear hK K
       try simp only [Act.put, sX1, sX2, sX3]
       refine eU 15 fun K hK => ?_; go_simp; refine (qDi (w := w8) (k := 66 * t + 129) Vu.o Vs.o (Su.o.mono (by omega)) ((Sq.o.mul Sv.o).mono (by omega)) (by omega)).mono ?_; rintro e w9 ⟨s_z, a_z, n_z, c_z, rfl, h_z, hB⟩; have Vz := hZ h_z; replace HBr := oT HBr hB; replace Rr := Rr.b hB; replace RS := RS.b hB; replace Fq := Fq.b hB; replace HP := HP.b hB; replace Vu := Vu.b hB; replace Vv := Vv.b hB; replace Vq := Vq.b hB; replace Vs := Vs.b hB; replace HB := bT HB hB; clear hB; clear h_z; refine hK.out _ _ HBr.o (fun hHeld => ?_); clear hK K
       try simp only [Act.put, sX1, sX2, sX3]
       refine pU 16 90 ?_; obtain ⟨s_9, a_9, n_9, c_9, e0, e1, -⟩ := Rr.o.get (k) Hkr.o; have e2 := Rr.o.frozen (k * 2); have e3 := Rr.o.frozen (k * 2 + 1); have hn9 : qAe w9 (g) := Rr.o.noInt; obtain ⟨w10, hw⟩ := eX ((w9.setCell ⟨g, k * 2, none⟩ (.bool s_z)).setCell ⟨g, k * 2 + 1, none⟩ (.slice a_z n_z c_z)); have hw2 : st2 w9 (g) (k * 2) (k * 2 + 1) s_z a_z n_z c_z = w10 := hw; replace Rr := hZ (qAB.put' Rr.o (k) Hkr.o Vz.o); rw [hw2] at Rr; replace RS := hZ (qB7.off9 (g := g) (o1 := k * 2) (o2 := k * 2 + 1) (s := s_z) (a := a_z) (n' := n_z) (c := c_z) RS.o hn9 ⟨by have := HGR.o.1; omega, fun i hi => by have := HGR.o.2 i hi; omega⟩); rw [hw2] at RS; replace Fq := hZ (Fq.o.offe hw2 hn9 (by have := Hbb.o; omega)); replace HP := hZ (qNv (g := g) (o1 := k * 2) (o2 := k * 2 + 1) (s := s_z) (a := a_z) (n' := n_z) (c' := c_z) HP.o (by have := HBp.o; omega)); rw [hw2] at HP; replace Vu := hZ (Vu.o.offe hw2 hn9); replace Vv := hZ (Vv.o.offe hw2 hn9); replace Vq := hZ (Vq.o.offe hw2 hn9); replace Vs := hZ (Vs.o.offe hw2 hn9); replace Vz := hZ (Vz.o.offe hw2 hn9); replace HB := hZ (bO hw2 HB.o HG0.o); clear hw2 hn9; refine lU 17 fun K hK => ?_; go_simp
       try rw [hw]
       refine hK.out _ _ ?_; clear hK K
       try simp only [Act.put, sX1, sX2, sX3]
       clear hw e0 e1 e2 e3; refine dU ?_; clear hHeld
       go_wp2_with fail
       go_roundw
       case rel => exact ⟨k + 1, rest2.set k (u - qq * vz), by omega, by omega, by go_num, hZ (HS.o.step hkn (by rw [qAi Hkr.o, qAi Hkrow.o, Hu.o, Hvz.o])), hZ (fun x hx => by rcases List.mem_or_eq_of_mem_set hx with h9 | h9; exact SW.o x h9; rw [h9]; exact ((Su.o.mono (by omega)).sub ((Sq.o.mul Sv.o).mono (show 66 * t + 65 + 64 <= 66 * t + 129 by omega))).mono (by omega)), Rr, RS, Fq, HP, HB⟩
       case measure => simp [intOf]; omega
      ·skip
       obtain rfl : k = n := by omega
       go_wp2_with fail
       go_roundw
       case rel => exact ⟨t + 1, rest2, by omega, by go_num, hZ (HSt.o rest2 (by rw [HVp.o.1, HVp.o.2, Hrr.o]; exact hr0) HS.o.len (fun j => by rw [HVp.o.1, HVp.o.2, Hqq.o]; exact HS.o.all Hlen.o Hrl.o j)), SW, Rr, RS, HP, HB⟩
       case measure => simp [intOf]; omega
    ·skip
     refine (qAz (w := w5) Vr.o Sr.o (by omega)).mono ?_; rintro e w6 ⟨he, hB⟩; obtain ⟨sgr, hs9, q0r, q1r⟩ := qAY (x := rr) hr0; rw [hs9] at he; subst he; clear hs9; replace Rr := Rr.b hB; replace RS := RS.b hB; replace HP := HP.b hB; replace Fq := Fq.b hB; replace Fr := Fr.b hB; replace Vr := Vr.b hB; replace HB := bT HB hB; clear hB
     go_wp2_with fail
     go_ret; exact ⟨HB.o, false, rfl, ⟨fun h => by simp at h, fun h => absurd h.2.2.2 (HFl.o hr0)⟩⟩
  ·skip
   obtain rfl : t = b.length := by omega
   have HD := hZ HRt.o.done; have Hrl := hZ HRt.o.len
   go_wp2_with fail
   have HB9 : Hid (b.length <= 64 /\ n <= 128) := hZ ⟨by omega, by omega⟩
   go_loopw [94] (fun i wr => ∃ k : Nat, k <= n /\ i = .int .i64 k /\ Hid (∀ c, c < k -> vec rest c = 0) /\ Hid (qAB wr g rest) /\ Hid (Below w0.heap.size w0 wr)) (fun i _ => n - (intOf i).toNat)
   case atStart => exact ⟨0, by omega, rfl, hZ (fun c h => by omega), Rr, HB⟩
   case round =>
    clear Rr RS HP HB; obtain ⟨k, hk, rfl, HZ, Rr, HB⟩ := hrel; obtain ⟨w4, rfl⟩ := eY wr; by_cases hkn : k < n
    ·skip
     have i1 : (0 : Int) <= (k : Int) := by omega
     have i2 : (k : Int) < (n : Int) := by omega
     have Hkr : Hid (k < rest.length) := hZ (by rw [Hrl.o]; exact hkn); obtain ⟨s_x, a_x, n_x, c_x, d0x, d1x, h_x⟩ := Rr.o.get k Hkr.o; obtain ⟨x, hx⟩ := eX (rest[k]'Hkr.o); rw [hx] at h_x; have Vx := hZ h_x; have Hx := hZ hx; have Sx : Hid (Sz (66 * b.length + 64) x) := hZ (hx ▸ SV.o _ (List.getElem_mem _)); clear h_x hx; obtain ⟨w5, hw⟩ := eX ((w4.alloc (.cells #[.bool s_x, .slice a_x n_x c_x] 73))); have hB := aB hw; obtain ⟨bx, hb_bx⟩ := eX w4.heap.size; have h9 := Bx.new (w := w4) Vx.o; rw [hw, hb_bx] at h9; have Fx' := hZ h9; have hge_bx : w4.heap.size <= bx := by omega
     clear h9; replace Rr := Rr.b hB; replace Vx := Vx.b hB; replace HB := bT HB hB; have Fx := Fx'; clear Fx'; clear hB; obtain ⟨s_p, a_p, n_p, c_p, t_p, h_p⟩ := Fx.o; have d0p := t_p.cell0; have d1p := t_p.cell1; have Vp := hZ h_p; clear t_p h_p
     go_wp2_with fail
     clear hw hb_bx d0x d1x; clear d0p d1p; by_cases hx0 : x = 0
     ·skip
      refine (qAz (w := w5) Vp.o Sx.o (by omega)).mono ?_; rintro e w6 ⟨he, hB⟩; rw [show qAN x 0 = 0 by rw [hx0]; exact qAQ 0] at he; subst he; replace Rr := Rr.b hB; replace Vx := Vx.b hB; replace Fx := Fx.b hB; replace Vp := Vp.b hB; replace HB := bT HB hB; clear hB
      go_wp2_with fail
      go_roundw
      case rel => exact ⟨k + 1, by omega, by go_num, hZ (fun c hc => if h9 : c < k then HZ.o c h9 else by rw [show c = k by omega, qAi Hkr.o, Hx.o]; exact hx0), Rr, HB⟩
      case measure => simp [intOf]; omega
     ·skip
      refine (qAz (w := w5) Vp.o Sx.o (by omega)).mono ?_; rintro e w6 ⟨he, hB⟩; obtain ⟨sgp, hs9, q0p, q1p⟩ := qAY (x := x) hx0; rw [hs9] at he; subst he; clear hs9; replace Rr := Rr.b hB; replace Vx := Vx.b hB; replace Fx := Fx.b hB; replace Vp := Vp.b hB; replace HB := bT HB hB; clear hB
      go_wp2_with fail
      go_ret; exact ⟨HB.o, false, rfl, ⟨fun h => by simp at h, fun h => absurd (HD.o.1 h.2.2.2 _ (List.getElem_mem Hkr.o)) (by rw [Hx.o]; exact hx0)⟩⟩
    ·skip
     go_wp2_with fail
     go_ret; exact ⟨HB.o, true, rfl, ⟨fun _ => ⟨HB9.o.1, by rw [HN.o]; exact HB9.o.2, by rw [HN.o]; exact HI.o, HD.o.2 (fun x hx => by obtain ⟨j, hj, rfl⟩ := List.mem_iff_getElem.1 hx; have := HZ.o j (by have := Hrl.o; omega); rwa [qAi hj] at this)⟩, fun _ => rfl⟩⟩
theorem qE3 {n : Nat} : ∀ {A B : List (List Int)}, (∀ r ∈ A, r.length = n) -> (∀ r ∈ B, r.length = n) -> A.map vec = B.map vec -> A = B
 | [], [], _, _, _ => rfl
 | [], b :: B, _, _, h => by simp at h
 | a :: A, [], _, _, h => by simp at h
 | a :: A, b :: B, h1, h2, h => by
  simp only [List.map_cons, List.cons.injEq] at h; rw [qOs (l := a) (l' := b) (by rw [h1 a (by simp), h2 b (by simp)]) (fun j => by rw [h.1]), qE3 (fun r hr => h1 r (by simp [hr])) (fun r hr => h2 r (by simp [hr])) h.2]
theorem qAR.blw {w w' : World} {v : Value} {m : List (List Int)} (h : qAR w v m) (hb : Below w.heap.size w w') : qAR w' v m := h.below hb
instance {w w' : World} {v : Value} {m : List (List Int)} : Mv w w' (qAR w v m) (qAR w' v m) := ⟨fun hb h => qAR.blw h hb⟩
theorem qDJ.fit {H : List (List Int)} {e : Ending} {w' : World} (h : qDJ H e w') (hf : ∀ r ∈ H, ∀ x ∈ r, qKW x) : ∃ u, e = .returned (.tuple #[u, .int .i64 0]) /\ qAR w' u H := by
 rcases h with ⟨-, r, hr, x, hx, hn⟩ | ⟨u, h1, h2, -⟩
 ·exact absurd (hf r hr x hx) hn
 ·exact ⟨u, h1, h2⟩
theorem qAj.lit {w : World} {g n : Nat} {l : List Int} (h : qAm w g 3 (l.map zv)) (hl : l.length = n) (hn : n <= 1000) : qAj w (.slice (some ⟨g, 0, none⟩) n n) l := by
 subst hl; exact qBN h (Nat.le_refl _) (by omega)
def qDI (n m : Int) : Int := if n < 0 then (-(n+1)) % m else n % m
theorem qH2 (n m : Int) (hm : 1 <= m) : 0 <= qDI n m /\ qDI n m < m := by
 unfold qDI
 split
 ·exact ⟨Int.emod_nonneg _ (by omega), Int.emod_lt_of_pos _ (by omega)⟩
 ·exact ⟨Int.emod_nonneg _ (by omega), Int.emod_lt_of_pos _ (by omega)⟩
theorem qMK (n m : Int) (hn : n < 0) (_hm : 1 <= m) : (-(n + 1)).tmod m = qDI n m := by
 unfold qDI; rw [if_pos hn, Int.tmod_eq_emod_of_nonneg (by omega)]
theorem qCm {k : IntKind} {a b : Int} (h : a = b) : Ending.returned (.int k a) = .returned (.int k b) := by rw [h]
theorem qKQ (n m : Int) (w : World) (hn : -9223372036854775808 <= n) (hn' : n <= 9223372036854775807) (hm : 1 <= m) (hm' : m <= 9223372036854775807) :
 Calls Tryz.prog 23 #[.int .i64 n, .int .i64 m] w fun e w' => e = .returned (.int .i64 (qDI n m)) /\ w = w' := by
 by_cases h : n < 0
 ·have h2 := hZ (qMK n m h hm)
  go_enter Tryz.func23, Tryz.ntmps23
  go_wp2
  go_ret; exact ⟨qCm (by rw [<- h2.o, Int.neg_tmod]), rfl⟩
 ·go_enter Tryz.func23, Tryz.ntmps23
  go_wp2
  go_ret; exact ⟨qCm (by rw [qDI, if_neg (by omega)]), rfl⟩
def qCy (w : World) (v : Value) (zs : List Int) (len : Nat) : Prop :=
 (∃ a cap, v = .slice a 0 cap /\ len = 0 /\ cap <= 9223372036854775807) \/ ∃ b off cap, v = .slice (some ⟨b, off, none⟩) len cap /\ b < w.heap.size /\ len <= cap /\ cap <= 9223372036854775807 /\ (∀ j, j < len -> w.cell? ⟨b, off + j, none⟩ = some (.int .i64 (zs[j]?.getD 0))) /\ (∀ j, j < len -> -9223372036854775808 <= zs[j]?.getD 0 /\ zs[j]?.getD 0 <= 9223372036854775807)
theorem qCy.below {w w' : World} {v : Value} {zs : List Int} {len : Nat} (h : qCy w v zs len) {B : Nat} (hB : w.heap.size <= B) (hb : Below B w w') : qCy w' v zs len := by
 rcases h with h | ⟨b, off, cap, hv, hlt, h1, h2, hc, hr⟩
 ·exact .inl h
 ·exact .inr ⟨b, off, cap, hv, Nat.lt_of_lt_of_le hlt hb.size, h1, h2, fun j hj => (hb.cell (p := ⟨b, off + j, none⟩) (Nat.lt_of_lt_of_le hlt hB)).trans (hc j hj), hr⟩
def qEV (zs : List Int) (len i : Nat) (m : Int) : Int := if i < len then qDI (zs[i]?.getD 0) m else 0
theorem qEU (zs : List Int) (len i : Nat) (m : Int) (hm : 0 < m) : 0 <= qEV zs len i m /\ qEV zs len i m < m := by
 unfold qEV; by_cases h : i < len
 ·rw [if_pos h]; exact qH2 _ _ hm
 ·rw [if_neg h]; omega
theorem qM4 (v : Value) (zs : List Int) (len i : Nat) (m : Int) (w : World) (h : qCy w v zs len) (hi : i <= 4611686018427387904) (hm0 : 0 < m) (hm1 : m <= 4611686018427387904) :
 Calls Tryz.prog 29 #[v, .int .i64 i, .int .i64 m] w fun e w' => e = .returned (.int .i64 (qEV zs len i m)) /\ w' = w := by
 rcases h with ⟨a, cap, rfl, rfl, hcap⟩ | ⟨b, off, cap, rfl, hlt, h1, h2, hc, hr⟩
 ·have hp : Hid (qEV zs 0 i m = 0) := hZ (by unfold qEV; rw [if_neg (by omega)])
  go_enter Tryz.func29, Tryz.ntmps29
  go_wp2
  go_ret; exact ⟨by rw [hp.o]; rfl, rfl⟩
 ·by_cases hil : i < len
  ·have hp : Hid (qEV zs len i m = qDI (zs[i]?.getD 0) m) := hZ (by unfold qEV; rw [if_pos hil])
   have hcell := hc i hil; have hri := hr i hil; clear hc hr; generalize zs[i]?.getD 0 = z at *
   go_enter Tryz.func29, Tryz.ntmps29
   go_wp2_with (go_at_call 23; refine (qKQ z m w hri.1 hri.2 (by omega) (by omega)).mono ?_; rintro e w' ⟨rfl, rfl⟩)
   go_ret; exact ⟨by rw [hp.o]; rfl, rfl⟩
  ·have hp : Hid (qEV zs len i m = 0) := hZ (by unfold qEV; rw [if_neg hil])
   clear hc hr
   go_enter Tryz.func29, Tryz.ntmps29
   go_wp2
   go_ret; exact ⟨by rw [hp.o]; rfl, rfl⟩
theorem qPk (d : Nat) (h : d < 10) : (⟨#[48, 49, 50, 51, 52, 53, 54, 55, 56, 57]⟩ : ByteArray).extract d (d + 1) = ⟨[dch d].toArray⟩ := by
 match d, h with
 | 0, _ => rfl
 | 1, _ => rfl
 | 2, _ => rfl
 | 3, _ => rfl
 | 4, _ => rfl
 | 5, _ => rfl
 | 6, _ => rfl
 | 7, _ => rfl
 | 8, _ => rfl
 | 9, _ => rfl
 | d + 10, h => omega
def ldV : Value -> Nat
 | .int _ i => i.natAbs
 | _ => 0
theorem qQn : (⟨#[45]⟩ : ByteArray) = ⟨([45] : Tx).toArray⟩ := rfl
theorem qI1 (n : Nat) (w : World) (h0 : 0 < n) (h : n <= 9223372036854775807) :
 Calls Tryz.prog 36 #[.int .i64 (n : Int)] w fun e w' => e = .returned (sv (dec n)) /\ w' = w := by
 have hne : ((n : Int) == 0) = false := by simp; omega
 have hnn : ¬ ((n : Int) < 0) := by omega
 have Hdec : Hid (dec n = qKI n) := hZ (by unfold dec; rw [if_neg (by omega)]); have Hlen := hZ (qGn 19 n (by omega)).2
 go_enter Tryz.func36, Tryz.ntmps36
 go_wp2_with fail
 go_loop [4, 5] (fun sv5 kv => ∃ (t : Tx) (r : Nat), r <= n /\ kv = .int .i64 ((r : Int)) /\ sv5 = .string ⟨t.toArray⟩ /\ Hid (qKI r ++ t = qKI n)) (fun _ kv => ldV kv)
 case atStart => exact ⟨[], n, Nat.le_refl _, rfl, rfl, hZ (by simp)⟩
 case round =>
  obtain ⟨t, r, hr, rfl, rfl, ht⟩ := hrel; have htl : t.length <= 19 := by
   have h5 := congrArg List.length ht.o; rw [List.length_append] at h5; have := Hlen.o; omega
  by_cases h1 : r = 0
  ·subst h1
   go_wp2
   go_ret; refine ⟨?_, rfl⟩; rw [Hdec.o, <- ht.o]
   first | rfl | (rw [qQn, qMJ]; rfl)
  ·have Hst := hZ (qDF r h1)
   obtain ⟨k, hk⟩ := eX (r % 10); obtain ⟨q, hq⟩ := eX (r / 10); have hk10 : k < 10 := by omega
   have hqr : q < r := by omega
   have hrn : (((r : Int)) == 0) = false := by simp; omega
   have hkI : (r : Int) % 10 = (k : Int) := by omega
   have hqI : (r : Int) / 10 = (q : Int) := by omega
   rw [hk, hq] at Hst; have Hsub := hZ (qPk k hk10); have hk11 : ¬ ((k : Int) < 0) := by omega
   clear hk hq h1
   go_wp2_with fail
   go_round
   case rel =>
    refine ⟨[dch k] ++ t, q, by omega, rfl, ?_, hZ (by rw [<- ht.o, Hst.o, List.append_assoc])⟩; rw [Hsub.o, qMJ]
   case measure => simp [ldV]; omega
theorem qHN (w : World) : Calls Tryz.prog 36 #[.int .i64 0] w fun e w' => e = .returned (sv (dec 0)) /\ w' = w := by
 go_enter Tryz.func36, Tryz.ntmps36
 go_wp2
 go_ret; exact ⟨rfl, rfl⟩
theorem qI2 (n : Nat) (w : World) (h : n <= 9223372036854775807) :
 Calls Tryz.prog 36 #[.int .i64 (n : Int)] w fun e w' => e = .returned (sv (dec n)) /\ w' = w := by
 rcases Nat.eq_zero_or_pos n with h0 | h0
 ·subst h0; exact qHN w
 ·exact qI1 n w h0 h
theorem qAR.of_own {w : World} {base : Nat} {v : Value} {l : List (Nat × Nat)} {M : List (List Int)} (h : w.ownsRow base 22 1 v l.length (l.map rwI)) (hr : qBc w l M) (hc : ∀ r ∈ M, r.length <= 9223372036854775807) : qAR w v M := by
 refine qAc.of_own (css := l.map (fun x => [rwI x])) (base := base) (e := 22) (by rw [qBQ, List.length_map]; exact h) (fun cs h => by obtain ⟨x, _, rfl⟩ := List.mem_map.1 h; rfl) (by rw [List.length_map]; exact hr.len.symm) (fun j h1 h2 => ?_); have h3 : j < l.length := by rw [<- hr.len]; exact h1
 obtain ⟨k1, k2⟩ := hr.row j h3; rw [List.getElem_map]; refine ⟨_, rfl, ?_⟩; have := qBN k1 (Nat.le_refl _) (hc _ (List.getElem_mem _)); rw [k2] at this; exact this
theorem qIj {w : World} {base t g n cap : Nat} {xs : List Value} (h : w.ownsRow base t 1 (.slice (some ⟨g, 0, none⟩) n cap) n xs) : ∃ tl, qAm w g t (xs ++ tl) := by
 obtain ⟨hl, ho⟩ := h; rcases ho with ⟨hv, _⟩ | ⟨g', cap', cur, hv, hb, hh, hn, hm, hs, ht⟩
 ·cases hv
 ·injection hv with e1 e2 e3
  injection e1 with e1; injection e1 with e1; subst e1; refine ⟨cur.toList.drop (n * 1), ?_⟩; rw [<- ht, List.take_append_drop]; exact hh
theorem qPf {M : List (List Int)} {a b : Nat} (ha : a < M.length) (hb : b < M.length) (j : Nat) : ent (qAI M a b ha hb) a j = ent M b j := by
 have h1 : a < (qAI M a b ha hb).length := by rw [qAh]; exact ha
 unfold ent; rw [List.getElem?_eq_getElem h1, List.getElem?_eq_getElem hb, qAD a ha]; by_cases e : a = b
 ·subst e; simp
 ·rw [if_neg e, if_pos rfl]
theorem qF3 {M0 : List (List Int)} {c : Nat} (hc : ∀ r ∈ M0, r.length = c) : ∀ col, ∃ M ps d, qA5 M0 M ps d col /\ ∀ r ∈ M, r.length = c
 | 0 => ⟨M0, [], 1, qA5.start M0, hc⟩
 | n + 1 => by
  obtain ⟨M, ps, d, h, hr⟩ := qF3 hc n; by_cases hz : ∃ i, ps.length <= i /\ i < M.length /\ ent M i n ≠ 0
  ·obtain ⟨i, hp, hi, hne⟩ := hz
   have hk : ps.length < M.length := by omega
   have hs := h.swap ps.length i hk hi (Nat.le_refl _) hp; have hk2 : ps.length < (qAI M ps.length i hk hi).length := by rw [qAh]; exact hk
   have hr2 : ∀ r ∈ qAI M ps.length i hk hi, r.length = c := fun r hr' => hr r (qEH r hr'); refine ⟨_, _, _, hs.step hr2 hk2 (by rw [qPf]; exact hne), fun r hr' => ?_⟩; obtain ⟨t, ht, rfl⟩ := List.mem_iff_getElem.1 hr'; rw [qBl] at ht; rw [qBX ht hk2]
   split
   ·exact hr2 _ (List.getElem_mem _)
   ·exact qGp (hr2 _ (List.getElem_mem _)) (hr2 _ (List.getElem_mem _))
  ·exact ⟨M, ps, d, h.skip (fun q h1 h2 => Classical.byContradiction (fun h3 => hz ⟨q, h1, h2, h3⟩)), hr⟩
theorem qMj {M0 : List (List Int)} {c : Nat} (hc : ∀ r ∈ M0, r.length = c) : ∃ (A M : List Vec) (ps : List Nat) (d : Int), A.length = M0.length /\ (∀ r, r ∈ A ↔ r ∈ M0.map vec) /\ qBD A M ps d c /\ (∀ i (h : i < M.length), ps.length <= i -> ∀ j, M[i] j = 0) /\ (Ind (M0.map vec) ↔ ps.length = M.length) := by
 obtain ⟨M, ps, d, ⟨A, a1, a2, a3, a4⟩, hr⟩ := qF3 hc c; have hz : ∀ i (h : i < (M.map vec).length), ps.length <= i -> ∀ j, (M.map vec)[i] j = 0 := fun i h hp j => by
  rcases Nat.lt_or_ge j c with hj | hj
  ·exact a3.zero i h hp j hj
  ·rw [List.getElem_map, qAo (by rw [hr _ (List.getElem_mem _)]; exact hj)]
 refine ⟨A.map vec, M.map vec, ps, d, by rw [List.length_map, a1], fun r => ?_, a3, hz, a4.trans (a3.ind hz)⟩; simp only [List.mem_map]; exact ⟨fun ⟨x, hx, e⟩ => ⟨x, (a2 x).1 hx, e⟩, fun ⟨x, hx, e⟩ => ⟨x, (a2 x).2 hx, e⟩⟩
theorem Nrm.piv_dvd : ∀ {lo : Nat} {B : List Vec} {v : Vec} {c : Nat}, Nrm lo B -> qAa B v -> qCA v c -> ∃ s ∈ B, qCA s c /\ 0 < s c /\ s c ∣ v c
 | _, [], v, c, _, h, hp => absurd (qCl h c) hp.2
 | lo, r :: rs, v, c, ⟨p, h1, h2, h3, h4, h5⟩, h, hp => by
  obtain ⟨x, w, hw, he⟩ := qCd h; rcases Nat.lt_trichotomy c p with hc | hc | hc
  ·refine absurd ?_ hp.2
   rw [he, h2.1 c hc, h4.low hw c (by omega)]; simp
  ·subst hc
   exact ⟨r, by simp, h2, h3, x, by rw [he, h4.low hw c (by omega), Int.mul_comm]; simp⟩
  ·obtain ⟨s, k1, k2⟩ := h4.piv_dvd (h4_tail h2 h4 h (hp.1 p hc)) hp
   exact ⟨s, by simp [k1], k2⟩
where h4_tail {p : Nat} {r : Vec} {rs : List Vec} {v : Vec} (h2 : qCA r p) (h4 : Nrm (p + 1) rs) (h : qAa (r :: rs) v) (h0 : v p = 0) : qAa rs v := Nrm.tail h2.2 h4 h h0
theorem Nrm.ent_le : ∀ {lo : Nat} {B : List Vec}, Nrm lo B -> ∀ v ∈ B, ∀ s ∈ B, ∀ e, qCA s e -> 0 <= v e /\ v e <= s e
 | _, [], _, v, hv, _, _, _, _ => by cases hv
 | lo, r :: rs, ⟨p, h1, h2, h3, h4, h5⟩, v, hv, s, hs, e, he => by
  rcases List.mem_cons.1 hv with rfl | hv' <;> rcases List.mem_cons.1 hs with rfl | hs'
  ·obtain rfl := h2.uniq he
   omega
  ·have := h5 s hs' e he; omega
  ·obtain rfl := h2.uniq he
   have := h4.low (qAa.mem hv') p (by omega); omega
  ·exact h4.ent_le v hv' s hs' e he
section
variable {A M : List Vec} {ps : List Nat} {d : Int} {col : Nat}
theorem qBD.mpiv (h : qBD A M ps d col) (t : Nat) (ht : t < ps.length) (hm : t < M.length) : qCA M[t] ps[t] /\ M[t] ps[t] = d := by
 have h1 := h.diag t t hm ht ht; rw [if_pos rfl] at h1; exact ⟨⟨fun j hj => h.left t hm ht j hj, by rw [h1]; exact h.d0⟩, h1⟩
theorem qBD.mspan (h : qBD A M ps d col) (t : Nat) (hm : t < M.length) : qAa A M[t] := (h.minor _ (List.getElem_mem hm)).span
theorem qBD.lenM (h : qBD A M ps d col) : ps.length <= M.length := by have := h.len; have := h.le; omega
theorem qBD.piv (h : qBD A M ps d col) (h0 : ∀ i (h : i < M.length), ps.length <= i -> ∀ j, M[i] j = 0) {v : Vec} (hv : qAa A v) {c : Nat} (hp : qCA v c) : c ∈ ps := by
 refine Classical.byContradiction (fun hn => hp.2 ?_); have h1 := h.coord h0 hv c; rw [qBg _ _ _ _ (fun t ht => by
  have htp : t < ps.length := by rw [List.length_take] at ht; omega
  rw [Nat.zero_add, List.getElem_take]; rcases Nat.lt_trichotomy ps[t] c with hc | hc | hc
  ·simp only [res, dif_pos htp]
   rw [hp.1 _ hc, Int.zero_mul]
  ·exact absurd (hc ▸ List.getElem_mem htp) hn
  ·rw [h.left t (by rw [List.length_take] at ht; omega) htp c hc, Int.mul_zero])] at h1
 exact (Int.mul_eq_zero.1 h1).resolve_left h.d0
end
theorem qOd (D F : Nat) (u : Vec) (j : Nat) : ∀ (M : List Vec) (s : Nat), (∀ t, (u t).natAbs <= D) -> (∀ r ∈ M, (r j).natAbs <= F) -> (qA2 u M s j).natAbs <= M.length * (D * F)
 | [], s, _, _ => by simp [qA2]
 | r :: M, s, h1, h2 => by
  have ih := qOd D F u j M (s + 1) h1 (fun r hr => h2 r (by simp [hr])); have h3 : (u s * r j).natAbs <= D * F := by rw [Int.natAbs_mul]; exact Nat.mul_le_mul (h1 s) (h2 r (by simp))
  simp only [qA2, List.length_cons, Nat.succ_mul]; omega
def fac : Nat -> Nat
 | 0 => 1
 | n + 1 => (n + 1) * fac n
theorem qMf : ∀ n, 1 <= fac n
 | 0 => Nat.le_refl _
 | n + 1 => Nat.mul_pos (by omega) (qMf n)
theorem qMv (X : Nat) : ∀ (cs : List Nat) (K : Nat) (R : List Vec), R.length <= K -> (∀ r ∈ R, ∀ j, (r j).natAbs <= X) -> (det cs R).natAbs <= fac K * X ^ cs.length
 | [], K, R, _, _ => by simp [det]; exact qMf K
 | c :: cs, 0, R, hK, hM => by
  have : R = [] := List.eq_nil_of_length_eq_zero (by omega); subst this; simp [det, xpd]
 | c :: cs, K + 1, R, hK, hM => by
  have := qKZ c X (fac K * X ^ cs.length) R (det cs) (fun r hr => hM r hr c) (fun l hl hlen => qMv X cs K l (by omega) (fun r hr => hM r (hl r hr))); refine Nat.le_trans this (Nat.le_trans (Nat.mul_le_mul_right _ hK) (Nat.le_of_eq ?_)); rw [List.length_cons, Nat.pow_succ, fac, <- Nat.mul_assoc X, Nat.mul_comm X, Nat.mul_assoc, Nat.mul_comm X, <- Nat.mul_assoc]
theorem qD8.fac {A : List Vec} {v : Vec} (h : qD8 A v) (X K : Nat) (hK : A.length <= K) (hX1 : 1 <= X) (hX : ∀ r ∈ A, ∀ j, (r j).natAbs <= X) (j : Nat) : (v j).natAbs <= Go.Proofs.YtkjhlkngihponaaGreatDoor.fac K * X ^ K := by
 obtain ⟨s, C, R, hs, hC, hR, hRA, hv⟩ := h; have h1 := qMv X (j :: C) K R (by omega) (fun r hr => hX r (hRA r hr)); have h2 : X ^ (j :: C).length <= X ^ K := Nat.pow_le_pow_right hX1 (by simp; omega); rw [hv, Int.natAbs_mul]; have : s.natAbs = 1 := by rcases hs with rfl | rfl <;> rfl
 rw [this, Nat.one_mul]; exact Nat.le_trans h1 (Nat.mul_le_mul_left _ h2)
theorem qAO.bound {M0 : List (List Int)} {H : List Vec} {c n K X : Nat} (h : qAO (M0.map vec) c H) (hn : ∀ r ∈ M0, r.length = n) (hl : M0.length <= K) (hX1 : 1 <= X) (hX : ∀ r ∈ M0.map vec, ∀ j, (r j).natAbs <= X) : ∀ v ∈ H, ∀ j, (v j).natAbs <= K * (fac K * X ^ K) := by
 obtain ⟨A, M, ps, d, a1, a2, he, h0, -⟩ := qMj hn; have hA : ∀ r ∈ A, qAa (M0.map vec) r := fun r hr => qAa.mem ((a2 r).1 hr); have hA' : ∀ r ∈ M0.map vec, qAa A r := fun r hr => qAa.mem ((a2 r).2 hr); have hXA : ∀ r ∈ A, ∀ j, (r j).natAbs <= X := fun r hr => hX r ((a2 r).1 hr); intro v hv j; obtain ⟨u, u1, u2, u3⟩ := (h.span v).1 (qAa.mem hv); have u1' := u1.trans hA'; have hc := he.coord h0 u1' (c + j); have hb : ∀ t, (res ps u t).natAbs <= d.natAbs := fun t => by
  unfold res
  split
  ·next ht =>
   have htm : t < M.length := Nat.lt_of_lt_of_le ht he.lenM; rcases Nat.lt_or_ge ps[t] c with hp | hp
   ·rw [u2 _ hp]; simp
   ·obtain ⟨p1, p2⟩ := he.mpiv t ht htm
    have e1 : c + (ps[t] - c) = ps[t] := by omega
    have hs : qAa H (sh c M[t]) := (h.span _).2 ⟨M[t], (he.mspan t htm).trans hA, fun k hk => p1.1 k (by omega), fun k => rfl⟩; obtain ⟨s, s1, s2, s3, s4⟩ := h.nrm.piv_dvd (c := ps[t] - c) hs ⟨fun k hk => p1.1 _ (by omega), by unfold sh; rw [e1]; exact p1.2⟩; have s5 := h.nrm.ent_le v hv s s1 _ s2; have s6 := u3 (ps[t] - c); rw [e1] at s6; have s7 : sh c M[t] (ps[t] - c) = d := by unfold sh; rw [e1]; exact p2
    rw [s7] at s4; have s8 : (s (ps[t] - c)).natAbs <= d.natAbs := Nat.le_of_dvd (Int.natAbs_pos.2 he.d0) (Int.natAbs_dvd_natAbs.2 s4); rw [<- s6]; omega
  ·simp
 have hm := qOd d.natAbs (fac K * X ^ K) (res ps u) (c + j) (M.take ps.length) 0 hb (fun r hr => (he.minor r (List.mem_of_mem_take hr)).fac X K (by rw [a1]; exact hl) hX1 hXA (c + j)); rw [<- hc, Int.natAbs_mul, <- u3] at hm; have hk : (M.take ps.length).length <= K := by
  rw [List.length_take]; have := he.len; omega
 have h9 : d.natAbs * (v j).natAbs <= d.natAbs * (K * (fac K * X ^ K)) := by
  refine Nat.le_trans hm (Nat.le_trans (Nat.mul_le_mul_right _ hk) (Nat.le_of_eq ?_)); rw [Nat.mul_left_comm]
 exact Nat.le_of_mul_le_mul_left h9 (Int.natAbs_pos.2 he.d0)
theorem Nrm.pivots : ∀ {lo : Nat} {B : List Vec}, Nrm lo B -> ∃ P : List Nat, P.length = B.length /\ P.Pairwise (· < ·) /\ (∀ p ∈ P, lo <= p) /\ ∀ e, e ∈ P ↔ ∃ s ∈ B, qCA s e
 | lo, [], _ => ⟨[], rfl, List.Pairwise.nil, by simp, by simp⟩
 | lo, r :: rs, ⟨c, h1, h2, h3, h4, h5⟩ => by
  obtain ⟨P, p1, p2, p3, p4⟩ := h4.pivots; refine ⟨c :: P, by simp [p1], List.pairwise_cons.2 ⟨fun a ha => by have := p3 a ha; omega, p2⟩, fun p hp => ?_, fun e => ?_⟩
  ·rcases List.mem_cons.1 hp with rfl | hp
   ·exact h1
   ·have := p3 p hp; omega
  ·constructor
   ·intro he
    rcases List.mem_cons.1 he with rfl | he
    ·exact ⟨r, by simp, h2⟩
    ·obtain ⟨s, s1, s2⟩ := (p4 e).1 he
     exact ⟨s, by simp [s1], s2⟩
   ·rintro ⟨s, hs, hp⟩
    rcases List.mem_cons.1 hs with rfl | hs
    ·obtain rfl := h2.uniq hp
     simp
    ·exact List.mem_cons.2 (.inr ((p4 e).2 ⟨s, hs, hp⟩))
theorem qJK {x : Vec} {j : Nat} : ∀ (L L' : List Vec) (s : Nat), L.length = L'.length -> (∀ i (h : i < L.length) (h' : i < L'.length), L[i] j = L'[i] j) -> qA2 x L s j = qA2 x L' s j
 | [], [], s, _, _ => rfl
 | [], a :: b, s, hl, _ => by simp at hl
 | a :: b, [], s, hl, _ => by simp at hl
 | r :: L, r' :: L', s, hl, he => by
  simp only [qA2]; rw [qJK L L' (s + 1) (by simpa using hl) (fun i h h' => he (i + 1) (by simpa using h) (by simpa using h'))]; have := he 0 (by simp) (by simp); simp only [List.getElem_cons_zero] at this; rw [this]
theorem qL2 {m : List (List Int)} {c : Nat} (hc : ∀ r ∈ m, r.length = c) (x : Vec) (j : Nat) (hj : j < c) : qA2 x ((qAJ m).map vec) 0 j = qA2 x (m.map vec) 0 j := by
 refine qJK _ _ 0 (by simp [qAp]) (fun i h h' => ?_); simp only [List.length_map] at h'; rw [List.getElem_map, List.getElem_map, qA7 m i h', qB0, qEG, if_pos (by rw [hc _ (List.getElem_mem _)]; exact hj)]
theorem qJB {m : List (List Int)} {c : Nat} (hc : ∀ r ∈ m, r.length = c) (x : Vec) (t : Nat) : qA2 x ((qAJ m).map vec) 0 (c + t) = if t < m.length then x t else 0 := by
 rw [qGD x (c + t) t _ 0 (fun i h => ?_)]
 ·simp [qAp]
 ·simp only [List.length_map, qAp] at h
  rw [List.getElem_map, qA7 m i h, qB0, qEG, hc _ (List.getElem_mem _), if_neg (by omega), show c + t - c = t by omega, qGa _ _ _ h, Nat.zero_add]
theorem qL1 {m : List (List Int)} {c : Nat} (hc : ∀ r ∈ m, r.length = c) (x : Vec) (j : Nat) (hj : c <= j) : qA2 x (m.map vec) 0 j = 0 :=
 qBg _ _ _ _ (fun t ht => by
  rw [List.getElem_map, qAo (by rw [hc _ (List.getElem_mem _)]; exact hj), Int.mul_zero])
theorem qBt.norm {m : List (List Int)} {c : Nat} (hc : ∀ r ∈ m, r.length = c) {H : List Vec} (h : qBt m H) : qAO ((qAJ m).map vec) c H := by
 refine ⟨h.nrm, fun v => (h.span v).trans ⟨?_, ?_⟩⟩
 ·rintro ⟨h1, h2⟩
  refine ⟨qA2 v ((qAJ m).map vec) 0, qEt.2 ⟨v, fun _ => rfl⟩, fun j hj => by rw [qL2 hc v j hj, h2], fun j => ?_⟩; rw [qJB hc]
  split
  ·rfl
  ·exact h1 j (by omega)
 ·rintro ⟨u, h1, h2, h3⟩
  obtain ⟨x, hx⟩ := qEt.1 h1; have h4 : ∀ t, v t = if t < m.length then x t else 0 := fun t => by rw [h3, hx, qJB hc]
  refine ⟨fun j hj => by rw [h4, if_neg (by omega)], fun j => ?_⟩; rcases Nat.lt_or_ge j c with hj | hj
  ·rw [qCg v x j _ 0 (fun t _ ht => by rw [h4, if_pos (by simpa using ht)]), <- qL2 hc x j hj, <- hx, h2 j hj]
  ·exact qL1 hc v j hj
theorem qIG {m : List (List Int)} {c : Nat} (hc : ∀ r ∈ m, r.length = c) : ∀ r ∈ qAJ m, r.length = c + m.length := by
 intro r hr; obtain ⟨i, hi, rfl⟩ := List.mem_iff_getElem.1 hr; rw [qAp] at hi; rw [qA7 m i hi, qB0, List.length_append, hc _ (List.getElem_mem _)]; simp
theorem qKx {m : List (List Int)} {X : Nat} (h1 : 1 <= X) (h : ∀ r ∈ m, ∀ x ∈ r, x.natAbs <= X) : ∀ r ∈ (qAJ m).map vec, ∀ j, (r j).natAbs <= X := by
 intro r hr j; obtain ⟨l, hl, rfl⟩ := List.mem_map.1 hr; obtain ⟨i, hi, rfl⟩ := List.mem_iff_getElem.1 hl; rw [qAp] at hi; rw [qA7 m i hi, qB0, qEG]
 split
 ·next hj => rw [qAi hj]; exact h _ (List.getElem_mem _) _ (List.getElem_mem _)
 ·rw [qGa _ _ _ hi]
  split <;> omega
theorem qLH {n : Nat} : ∀ {b : List (List Int)} {lo : Nat}, (∀ r ∈ b, r.length = n) -> Nrm lo (b.map vec) -> IsN b n := by
 have key : ∀ {b : List (List Int)} {lo : Nat}, (∀ r ∈ b, r.length = n) -> Nrm lo (b.map vec) -> (∀ r ∈ b, lo <= pv r /\ pv r < n /\ 0 < vec r (pv r)) /\ ∀ i (hi : i < b.length) k (hk : k < i), pv (b[k]'(by omega)) < pv b[i] /\ 0 <= vec (b[k]'(by omega)) (pv b[i]) /\ vec (b[k]'(by omega)) (pv b[i]) < vec b[i] (pv b[i]) := by
  intro b
  induction b with
  | nil => intro lo _ _; exact ⟨fun r hr => (by cases hr), fun i hi => (by simp at hi)⟩
  | cons r b ih =>
   intro lo hl h; obtain ⟨c, h1, h2, h3, h4, h5⟩ := h; obtain ⟨i1, i2⟩ := ih (fun r hr => hl r (by simp [hr])) h4; have hrl := hl r (by simp); have hcn : c < r.length := by
    refine Classical.byContradiction (fun hn => h2.2 ?_); exact qAo (by omega)
   have hpv : pv r = c := qPT h2.1 hcn h2.2; refine ⟨fun s hs => ?_, fun i hi k hk => ?_⟩
   ·rcases List.mem_cons.1 hs with rfl | hs
    ·rw [hpv]; exact ⟨h1, by omega, h3⟩
    ·have := i1 s hs; omega
   ·cases i with
    | zero => omega
    | succ i =>
     have hib : i < b.length := by simpa using hi
     have j1 := i1 _ (List.getElem_mem hib); cases k with
     | zero =>
      simp only [List.getElem_cons_zero, List.getElem_cons_succ]; rw [hpv]; have hpi : qCA (vec b[i]) (pv b[i]) := ⟨fun j hj => qJu hj, by omega⟩; have := h5 (vec b[i]) (List.mem_map.2 ⟨_, List.getElem_mem hib, rfl⟩) _ hpi; exact ⟨by omega, this⟩
     | succ k =>
      simp only [List.getElem_cons_succ]; exact i2 i hib k (by omega)
 intro b lo hl h i hi h'; obtain ⟨k1, k2⟩ := key hl h; have j1 := k1 _ (List.getElem_mem hi); exact ⟨hl _ (List.getElem_mem hi), j1.2.1, Int.le_of_lt j1.2.2, fun k hk => (k2 i hi k hk).1, fun k hk => (k2 i hi k hk).2⟩
theorem qQO {M : List (List Int)} {X : Nat} (h : ∀ r ∈ M, ∀ x ∈ r, x.natAbs <= X) (k j : Nat) : (ent M k j).natAbs <= X := by
 unfold ent vec; cases hk : M[k]? with
 | none => simp
 | some r =>
  simp only [Option.getD_some]; cases hj : r[j]? with
  | none => simp
  | some x => exact h r (List.mem_of_getElem? hk) x (List.mem_of_getElem? hj)
theorem qQN {a q y : Int} {X Q : Nat} (ha : a.natAbs <= X) (hq : q.natAbs <= Q) (hy : y.natAbs <= X) : (a - q * y).natAbs <= X + Q * X := by
 have h1 : (q * y).natAbs <= Q * X := by rw [Int.natAbs_mul]; exact Nat.mul_le_mul hq hy
 omega
theorem qAj.of_own {w : World} {base : Nat} {a : Option Addr} {c : Nat} {r : List Int} (h : w.ownsRow base 3 1 (.slice a r.length c) r.length (r.map zv)) : qAj w (.slice a r.length c) r := by
 rcases id h.2 with ⟨hv, h0⟩ | ⟨g, cap, cur, hv, _, hg, h1, h2, _⟩
 ·injection hv with e1 e2 e3
  subst e1 e3; exact ⟨none, 0, rfl, by omega, by omega, fun h9 => by omega⟩
 ·injection hv with e1 e2 e3
  subst e1 e3; unfold maxLen at h2; refine ⟨_, c, rfl, h1, by omega, fun _ => ⟨g, rfl, (Array.getElem?_eq_some_iff.1 hg).1, fun j hj => ⟨_, rfl, rfl, fun i hi => ?_⟩⟩⟩; obtain rfl : i = 0 := by omega
  rw [Nat.mul_one, Nat.add_zero, h.cellAt j (by omega)]; simp [hj, zv]
abbrev Yw := Option Addr × Nat
end Go.Proofs.YtkjhlkngihponaaGreatDoor
