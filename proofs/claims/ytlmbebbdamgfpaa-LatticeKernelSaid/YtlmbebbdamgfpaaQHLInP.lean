/- Normal forms of int matrices, and what In answers; plain Lean. -/
import Derived.Test.YtlmbebbdamgfpaaQHLChk
import Derived.Test.YtlmbebbdamgfpaaQHLSmall
import Derived.Test.YtlmbebbdamgfpaaQHLLead
set_option linter.unusedVariables false
set_option linter.unusedSimpArgs false
set_option maxHeartbeats 8000000
set_option maxRecDepth 100000
namespace Go.Proofs.Ytlmbebbdamgfpaa
open Go.RowKit
def qBx (m : List (List Int)) : Nat := (m[0]?.getD []).length
theorem qBK.sml {m : List (List Int)} (h : qBK m) : Sml m := ⟨h.rows, fun r hr x hx => by
 have := h.small r hr x hx; have e : (2 : Nat) ^ 40 = 1099511627776 := by decide
 rw [e]; omega⟩
theorem qBK.len {m : List (List Int)} (h : qBK m) : ∀ r ∈ m, r.length = qBx m := h.even
theorem qBK.cols_ {m : List (List Int)} (h : qBK m) : qBx m <= 128 := by
 unfold qBx; cases m with
 | nil => simp
 | cons r m => simpa using h.cols r (by simp)
def qA5 (H : List (List Int)) (e : Ending) (w' : World) : Prop :=
 (e = .returned (.tuple #[.slice none 0 0, .int .i64 4]) /\ ∃ r ∈ H, ∃ x ∈ r, ¬ qEH x) \/ ∃ u, e = .returned (.tuple #[u, .int .i64 0]) /\ qAA w' u H /\ ∀ r ∈ H, ∀ x ∈ r, qEH x
def qD5 (w0 : World) (m : List (List Int)) (e : Ending) (w' : World) : Prop :=
 Below w0.heap.size w0 w' /\ ((qAt m ≠ 0 /\ e = .returned (.tuple #[.slice none 0 0, .int .i64 (qAt m)])) \/ (qAt m = 0 /\ ∃ H : List (List Int), qAw (m.map vec) 0 (H.map vec) /\ (∀ r ∈ H, r.length = qBx m) /\ H.length <= m.length /\ qA5 H e w'))
theorem qIh (w0 : World) (v : Value) (m : List (List Int)) (h : qEI w0 v m) (hc : qBK m) : Calls Try.prog 32 #[v, .int .i64 0] w0 (qDn w0 m (qBx m) 0) := by
 have hlen := hc.len; have hrows := hc.rows; by_cases h1 : 0 < m.length /\ 0 < qBx m
 ·exact qEV w0 v m (qBx m) 0 h h1.1 hlen h1.2 (by have := hc.cols_; omega) (Nat.zero_le _) hc.sml
 ·refine qG1 w0 v m (qBx m) 0 h (by omega) (fun r hr => ?_)
  have := hlen r hr; have h2 : 0 < m.length := by
   rcases Nat.eq_zero_or_pos m.length with h3 | h3
   ·rw [List.eq_nil_of_length_eq_zero h3] at hr; cases hr
   ·exact h3
  omega
theorem qDn.small {w0 w : World} {m : List (List Int)} {n fr : Nat} {e : Ending} (h : qDn w0 m n fr e w) (hm : m.length <= 64) (hn : n <= 1000) : ∃ vr H, e = .returned vr /\ Below w0.heap.size w0 w /\ (∀ r ∈ H, r.length = n - fr) /\ H.length <= m.length /\ qAw (m.map vec) fr (H.map vec) /\
 Calls Try.prog 31 #[vr] w fun e2 w2 => Below w.heap.size w w2 /\ qA5 H e2 w2 := by
 obtain ⟨vr, H, he, h1, h2, h3, h4, h5, h6⟩ := h; refine ⟨vr, H, he, h6, h2, h4, h5, (qIc vr H w h1 (by omega) (fun r hr => by rw [h2 r hr]; omega) (fun r hr x hx => (h3 r hr x hx).mono (by omega))).mono ?_⟩; rintro e2 w2 ⟨k1, k2⟩; exact ⟨k1, k2⟩
theorem qEs (w0 : World) (v : Value) (m : List (List Int)) (h : qAA w0 v m) : Calls Try.prog 14 #[v] w0 (qD5 w0 m) := by
 have H := hZ h; have HB := hZ (Below.refl w0.heap.size w0); obtain ⟨av, cv, rfl, q1, q2⟩ := h.form; clear h
 go_enter Try.func14, Try.ntmps14
 go_wp2_with fail
 refine (qEA _ m w0 H.o).mono ?_; rintro e w1 ⟨rfl, hB⟩; replace HB := bT HB hB; clear hB; by_cases hz : qAt m = 0
 ·have Hc := hZ (qBt.1 hz)
  have Hz := hZ hz; rw [hz]; clear hz
  go_wp2_with fail
  refine (qC1 _ m (qBx m) w1 (H.o.below HB.o) (by have := Hc.o.rows; omega) Hc.o.len (by have := Hc.o.cols_; omega) (fun r hr x hx => by have := Hc.o.small r hr x hx; omega)).mono ?_; rintro e w2 ⟨R, l, rfl, h1, h2, h3, h4, h5, hB⟩; have HN := hZ (qIh w2 (.slice (some ⟨R, 0, none⟩) m.length m.length) m (by have := h1.mat (c := m.length) (by omega) (by have := Hc.o.rows; omega); rwa [h2] at this) Hc.o); replace HB := bT HB hB; clear hB h1 h2 h3 h4 h5
  go_wp2_with fail
  refine HN.o.mono ?_; rintro e w3 hP; obtain ⟨vr, Hm, rfl, hB, k1, k2, k3, k4⟩ := hP.small Hc.o.rows (by have := Hc.o.cols_; omega); replace HB := bT HB hB; have HS := hZ k4; have K1 := hZ k1; have K3 := hZ k3; have K2 := hZ k2; clear hB HN hP k1 k2 k3 k4
  go_wp2_with fail
  refine HS.o.mono ?_; rintro e w4 ⟨hB, ⟨rfl, k5⟩ | ⟨u, rfl, k5, k6⟩⟩
  ·replace HB := bT HB hB
   have K5 := hZ k5; clear hB k5
   go_wp2_with fail
   exact bodyPost_ret (v := .tuple #[.slice none 0 0, .int .i64 4]) (by simp [results, Try.results14, go_sem]) rfl ⟨HB.o, .inr ⟨Hz.o, Hm, K3.o, by have := K1.o; simpa using this, K2.o, .inl ⟨rfl, K5.o⟩⟩⟩
  ·replace HB := bT HB hB
   have K5 := hZ k5; have K6 := hZ k6; clear hB k5 k6
   go_wp2_with fail
   exact bodyPost_ret (v := .tuple #[u, .int .i64 0]) (by simp [results, Try.results14, go_sem]) rfl ⟨HB.o, .inr ⟨Hz.o, Hm, K3.o, by have := K1.o; simpa using this, K2.o, .inr ⟨u, rfl, K5.o, K6.o⟩⟩⟩
 ·have s1 : (qAt m != 0) = true := by simpa using hz
  have s2 : (qAt m == 0) = false := by simpa using hz
  have Hz := hZ hz; clear hz; obtain ⟨z, hz⟩ := eX (qAt m); have Hzz := hZ hz; rw [hz] at s1 s2 ⊢; clear hz
  go_wp2_with fail
  exact bodyPost_ret (v := .tuple #[.slice none 0 0, .int .i64 z]) (by simp [results, Try.results14, go_sem]) rfl ⟨HB.o, .inl ⟨Hz.o, by rw [Hzz.o]⟩⟩
def qJq (w0 : World) (m : List (List Int)) (e : Ending) (w' : World) : Prop :=
 Below w0.heap.size w0 w' /\ ∃ b : Bool, e = .returned (.bool b) /\ (b = true ↔ qAt m = 0 /\ Ind (m.map vec))
theorem qFq {m : List (List Int)} (h : ∀ r ∈ m, r.length = 0) : Ind (m.map vec) ↔ m.length = 0 := by
 constructor
 ·intro hI
  rcases Nat.eq_zero_or_pos m.length with h0 | h0
  ·exact h0
  ·have := hI (fun _ => 1) (fun j => qHa _ _ _ (fun r hr => by rw [h r hr]; omega)) 0 (by simpa using h0)
   simp at this
 ·intro h0 x _ i hi
  simp at hi; omega
theorem qAV (w0 : World) (v : Value) (m : List (List Int)) (h : qAA w0 v m) : Calls Try.prog 27 #[v] w0 (qJq w0 m) := by
 have H := hZ h; have HB := hZ (Below.refl w0.heap.size w0); obtain ⟨av, cv, rfl, q1, q2⟩ := h.form; clear h
 go_enter Try.func27, Try.ntmps27
 go_wp2_with fail
 refine (qEA _ m w0 H.o).mono ?_; rintro e w1 ⟨rfl, hB⟩; replace HB := bT HB hB; clear hB; by_cases hz : qAt m = 0
 ·have Hc := hZ (qBt.1 hz)
  have Hz := hZ hz; have hrows := Hc.o.rows; rw [hz]; clear hz
  go_wp2_with fail
  refine (qC1 _ m (qBx m) w1 (H.o.below HB.o) (by omega) Hc.o.len (by have := Hc.o.cols_; omega) (fun r hr x hx => by have := Hc.o.small r hr x hx; omega)).mono ?_; rintro e w2 ⟨R, l, rfl, h1, h2, h3, h4, h5, hB⟩; have HW : Hid (qEI w2 (.slice (some ⟨R, 0, none⟩) m.length m.length) m) := hZ (by have := h1.mat (c := m.length) (by omega) (by omega); rwa [h2] at this); replace HB := bT HB hB; clear hB h1 h2 h3 h4 h5; by_cases hc : 0 < m.length /\ 0 < qBx m
  ·have HL := hZ (qGc _ m (qBx m) w2 HW.o (by omega) Hc.o.len hc.2 (by have := Hc.o.cols_; omega))
   go_wp2_with fail
   refine HL.o.mono ?_; rintro e w3 ⟨B, l0, rfl, hLn, hl, hgB, hgl, hB⟩; have HE := hZ (qDk w3 B m.length (qBx m) l0 m hLn (by omega) (by omega) (by omega) (by have := Hc.o.cols_; omega) Hc.o.sml); have HGl : Hid (w2.heap.size <= B /\ ∀ i (h : i < l0.length), w2.heap.size <= l0[i].1) := hZ ⟨hgB, hgl⟩; have hs2 := HB.o.size; have Hs2 := hZ hs2; replace HB := bT HB hB; clear hB HL hLn hgB hgl hs2; rw [hl] at HE
   go_wp2_with fail
   refine HE.o.mono ?_; rintro e w4 ⟨vp, s_d, a_d, c_d, n_d, d, l, M, ps, col, rfl, h1, h2, h3, hll, h5, h6, h7, ho⟩; obtain ⟨ap, cp, hvp, q3, q4⟩ := h2.form; rw [List.length_map] at hvp q3; subst hvp; have HR := hZ (h5.rank h6); have hml := h3.len; replace HB := hZ (qAj HB.o ho (by have h9 := Hs2.o; rintro b (rfl | ⟨i, hi, rfl⟩); have := HGl.o.1; omega; have := HGl.o.2 i hi; omega) HB.o.size); have hMl : M.length = m.length := by omega
   rw [hMl] at HR; clear HE HGl h1 h2 h3 h5 h6 h7 ho hl hll hml hMl Hs2; obtain ⟨w5, hw⟩ := eX (w4.alloc (.cells #[.bool s_d, .slice a_d n_d c_d] 58)); replace HB : Hid (Below w0.heap.size w0 w5) := hZ (by rw [<- hw]; exact HB.o.alloc HB.o.size _); by_cases hp : ps.length = m.length
   ·have s1 : ((ps.length : Int) == (m.length : Int)) = true := by simp [hp]
    have s2 : (ps.length == m.length) = true := by simp [hp]
    go_wp2_with fail
    go_ret; exact ⟨HB.o, true, rfl, ⟨fun _ => ⟨Hz.o, HR.o.2 hp⟩, fun _ => rfl⟩⟩
   ·have s1 : ((ps.length : Int) == (m.length : Int)) = false := by rw [beq_eq_false_iff_ne]; omega
    have s2 : (ps.length == m.length) = false := by rw [beq_eq_false_iff_ne]; omega
    go_wp2_with fail
    go_ret; exact ⟨HB.o, false, rfl, ⟨fun h => by simp at h, fun h => absurd (HR.o.1 h.2) hp⟩⟩
  ·have hv : ∀ r ∈ m, r.length = 0 := fun r hr => by
    have := Hc.o.len r hr; have h2 : 0 < m.length := by
     rcases Nat.eq_zero_or_pos m.length with h3 | h3
     ·rw [List.eq_nil_of_length_eq_zero h3] at hr; cases hr
     ·exact h3
    omega
   have HI := hZ (qFq hv); have HL := hZ (qEW _ m w2 HW.o (by omega) hv); clear hv
   go_wp2_with fail
   refine HL.o.mono ?_; rintro e w3 ⟨B, rfl, h1, h2, hB⟩; have HE := hZ (qCN w3 B m.length m.length (by omega) h1 h2); replace HB := bT HB hB; clear hB h1 h2 HL
   go_wp2_with fail
   refine HE.o.mono ?_; rintro e w4 ⟨s_d, a_d, n_d, c_d, rfl, h1, hB⟩; replace HB := bT HB hB; clear hB HE h1; obtain ⟨w5, hw⟩ := eX (w4.alloc (.cells #[.bool s_d, .slice a_d n_d c_d] 58)); replace HB : Hid (Below w0.heap.size w0 w5) := hZ (by rw [<- hw]; exact HB.o.alloc HB.o.size _); by_cases hp : m.length = 0
   ·have HI2 := hZ (HI.o.2 hp)
    have s1 : ((0 : Int) == (m.length : Int)) = true := by simp [hp]
    go_wp2_with fail
    go_ret; exact ⟨HB.o, true, rfl, ⟨fun _ => ⟨Hz.o, HI2.o⟩, fun _ => rfl⟩⟩
   ·have s1 : ((0 : Int) == (m.length : Int)) = false := by rw [beq_eq_false_iff_ne]; omega
    have HI2 := hZ (fun h => hp (HI.o.1 h))
    go_wp2_with fail
    go_ret; exact ⟨HB.o, false, rfl, ⟨fun h => by simp at h, fun h => absurd h.2 HI2.o⟩⟩
 ·have s1 : (qAt m != 0) = true := by simpa using hz
  have s2 : (qAt m == 0) = false := by simpa using hz
  have Hz := hZ hz; clear hz; obtain ⟨z, hz⟩ := eX (qAt m); rw [hz] at s1 s2 ⊢
  go_wp2_with fail
  go_ret; exact ⟨HB.o, false, rfl, ⟨fun h => by simp at h, fun h => absurd h.1 Hz.o⟩⟩
open Go.RowKit
def qFG (w0 : World) (m : List (List Int)) (e : Ending) (w' : World) : Prop :=
 Below w0.heap.size w0 w' /\ ((qAt m ≠ 0 /\ e = .returned (.tuple #[.slice none 0 0, .int .i64 (qAt m)])) \/ (qAt m = 0 /\ ∃ H : List (List Int), qBu m (H.map vec) /\ (∀ r ∈ H, r.length = m.length) /\ H.length <= m.length /\ qA5 H e w'))
theorem qDE {n i : Nat} {r : List Int} : (qBL n r i).length = r.length + n := by simp [qBL]
theorem qGe {m : List (List Int)} {c : Nat} (hc : ∀ r ∈ m, r.length = c) : ∀ r ∈ qAH m, r.length = c + m.length := by
 intro r hr; obtain ⟨i, hi, rfl⟩ := List.mem_iff_getElem.1 hr; rw [qAs] at hi; rw [qA6 m i hi, qDE, hc _ (List.getElem_mem _)]
theorem qG8 {m : List (List Int)} (h : Sml m) : Sml (qAH m) := by
 refine ⟨by rw [qAs]; exact h.1, fun r hr x hx => ?_⟩; obtain ⟨i, hi, rfl⟩ := List.mem_iff_getElem.1 hr; rw [qAs] at hi; rw [qA6 m i hi, qBL] at hx; have h1 : (1 : Nat) <= 2 ^ 40 := Nat.pow_pos (by omega); rcases List.mem_append.1 hx with hx | hx
 ·exact h.2 _ (List.getElem_mem _) x hx
 ·rcases List.mem_or_eq_of_mem_set hx with hx | hx
  ·rw [(List.mem_replicate.1 hx).2]; exact Nat.zero_le _
  ·rw [hx]; exact h1
theorem qG7 {row : List Int} {c r n j : Nat} (hc : row.length = c) (hn : n = c + r) (hj : j < r) : (((row ++ List.replicate r 0).take c ++ (List.replicate n 0).drop c).set (c + j) 1) = qBL r row j := by
 subst hc hn; have e1 : (row ++ List.replicate r (0 : Int)).take row.length = row := by rw [List.take_left]
 have e2 : (List.replicate (row.length + r) (0 : Int)).drop row.length = List.replicate r 0 := by simp
 rw [e1, e2, List.set_append_right _ _ (by omega)]; simp [qBL]
theorem qDD (w0 : World) (v : Value) (m : List (List Int)) (h : qAA w0 v m) : Calls Try.prog 18 #[v] w0 (qFG w0 m) := by
 have H := hZ h; have HB := hZ (Below.refl w0.heap.size w0); obtain ⟨av, cv, rfl, q1, q2⟩ := h.form; clear h
 go_enter Try.func18, Try.ntmps18
 go_wp2_with fail
 refine (qEA _ m w0 H.o).mono ?_; rintro e w1 ⟨rfl, hB⟩; replace HB := bT HB hB; clear hB; by_cases hz : qAt m = 0; rotate_left
 ·have s1 : (qAt m != 0) = true := by simpa using hz
  have s2 : (qAt m == 0) = false := by simpa using hz
  have Hz := hZ hz; clear hz; obtain ⟨z, hz⟩ := eX (qAt m); have Hzz := hZ hz; rw [hz] at s1 s2 ⊢; clear hz
  go_wp2_with fail
  exact bodyPost_ret (v := .tuple #[.slice none 0 0, .int .i64 z]) (by simp [results, Try.results18, go_sem]) rfl ⟨HB.o, .inl ⟨Hz.o, by rw [Hzz.o]⟩⟩
 have Hc := hZ (qBt.1 hz); have Hz := hZ hz; have hrows := Hc.o.rows; have hcols := Hc.o.cols_; rw [hz]; clear hz; by_cases hm0 : m.length = 0
 ·have s1 : ((m.length : Int) == 0) = true := by simp [hm0]
  have s2 : (m.length == 0) = true := by simp [hm0]
  have Hm : Hid (m = []) := hZ (List.eq_nil_of_length_eq_zero hm0); have HK : Hid (qBu m (([] : List (List Int)).map vec)) := hZ (by
   rw [Hm.o]; refine ⟨trivial, fun v => ⟨fun h => ⟨fun j _ => qB4 h j, fun j => rfl⟩, fun h => qAa.zero.congr (fun j => (h.1 j (Nat.zero_le _)).symm)⟩⟩)
  go_wp2_with fail
  exact bodyPost_ret (v := .tuple #[.slice none 0 0, .int .i64 0]) (by simp [results, Try.results18, go_sem]) rfl ⟨HB.o, .inr ⟨Hz.o, [], HK.o, by simp, by simp, .inr ⟨_, rfl, qAh.nil _ _ (by omega), by simp⟩⟩⟩
 have s1 : ((m.length : Int) == 0) = false := by rw [beq_eq_false_iff_ne]; omega
 have s2 : (m.length == 0) = false := by rw [beq_eq_false_iff_ne]; omega
 have hpos : 0 < m.length := by omega
 have hpos1 : (0 : Int) < (m.length : Int) := by omega
 obtain ⟨c, hc⟩ := eX (qBx m); rw [hc] at hcols; have Hn : Hid (∀ r ∈ m, r.length = c) := hZ (by rw [<- hc]; exact Hc.o.len); have Hs : Hid (∀ r ∈ m, ∀ x ∈ r, -9223372036854775808 <= x /\ x <= 9223372036854775807) := hZ (fun r hr x hx => by have := Hc.o.small r hr x hx; omega); clear hc; obtain ⟨b0, cap0, a0, c0, hv0, hb0, n0, -, -, -⟩ := H.o.at_ 0 hpos; rw [Hn.o _ (List.getElem_mem hpos)] at n0; injection hv0 with f1 f2 f3; subst f1; clear f2 f3; replace n0 := (HB.o.cell (p := ⟨b0, 0, none⟩) hb0).trans n0; obtain ⟨n, hn⟩ := eX (c + m.length); have hn2 : n <= 1000 := by omega
 have HSz := hZ HB.o.size
 go_wp2_with (at_make; refine qBI rfl rfl (m.length) rfl rfl rfl rfl (by omega) ?_)
 intro w2 h_9 hB hlt9; obtain ⟨R, hb⟩ := eX w1.heap.size; rw [hb] at h_9 ⊢; have Ob' := hZ h_9; have hge_R : Hid (w1.heap.size <= R) := hZ (Nat.le_of_eq hb); have hlt_R : Hid (R < w2.heap.size) := hZ (by rw [<- hb]; exact hlt9); clear h_9 hb hlt9; replace HB := bT HB hB; clear hB; have Ob := Ob'; clear Ob'; clear n0 s1 s2
 go_wp2_with fail
 have HgR : Hid (w0.heap.size <= R) := hZ (Nat.le_trans HSz.o hge_R.o); clear hge_R hlt_R
 go_loopw [28] (fun i wr => ∃ (j : Nat) (l : List Rw), j <= m.length /\ i = .int .i64 j /\ Hid (l.length = j /\ (∀ k (h : k < l.length), R < l[k].1) /\ ∀ k (h : k < l.length), l[k].2 = n) /\ Hid (qAE wr R 55 (rwZ n l (m.length - j))) /\ Hid (qAC wr l n ((qAH m).take j)) /\ Hid (Below w0.heap.size w0 wr)) (fun i _ => m.length - (intOf i).toNat)
 case atStart => exact ⟨0, [], by omega, rfl, hZ ⟨rfl, fun k h => by simp at h, fun k h => by simp at h⟩, hZ (by simpa [rwZ] using Ob.o), hZ (qAC.nil _ _), HB⟩
 case round =>
  clear HB Ob; obtain ⟨j, l, hj, rfl, HL, Ob, RI, HB⟩ := hrel; obtain ⟨w2, rfl⟩ := eY wr; by_cases hlt : j < m.length
  ·skip
   obtain ⟨b, cap, a, cx, hv, hb, n1, HI, g1, g2⟩ := H.o.at_ j hlt; injection hv with f1 f2 f3; injection f1 with f1; injection f1 with f1; subst f1; clear f2 f3; have HI := hZ HI; have Hr : Hid (m[j].length = c) := hZ (Hn.o _ (List.getElem_mem hlt)); have Hsr : Hid (∀ x ∈ m[j], -9223372036854775808 <= x /\ x <= 9223372036854775807) := hZ (Hs.o _ (List.getElem_mem hlt)); have HM : Hid ((qAH m).take (j + 1) = (qAH m).take j ++ [qBL m.length m[j] j]) := hZ (by rw [List.take_succ_eq_append_getElem (by rw [qAs]; exact hlt), qA6 m j hlt]); replace n1 := (HB.o.cell (p := ⟨b0, j, none⟩) hb).trans n1; generalize m[j] = r at *; have HI0 := hZ (And.intro HI.o g1); clear HI; rw [Hr.o] at n1 HI0; have i1 : (0 : Int) <= (j : Int) := by omega
   have i2 : (j : Int) < (m.length : Int) := by omega
   obtain ⟨HI1, g3⟩ := HI0.o; have HI := hZ HI1; clear HI0 HI1 g1; have g1 := g3; clear g3
   go_wp2_with (at_make; refine qAY rfl rfl (n) rfl rfl (by omega) (by omega) (by omega) ?_)
   intro w3 h_9 hB hlt9; obtain ⟨g, hb⟩ := eX w2.heap.size; rw [hb] at h_9 ⊢; have Rr' := hZ h_9; have hge_g : Hid (w2.heap.size <= g) := hZ (Nat.le_of_eq hb); have hlt_g : Hid (g < w3.heap.size) := hZ (by rw [<- hb]; exact hlt9); have HLg : Hid ((∀ k (h : k < l.length), l[k].1 < g) /\ R < g) := hZ ⟨fun k h => by rw [<- hb]; exact RI.o.lt k h, by rw [<- hb]; exact Ob.o.lt⟩; clear h_9 hb hlt9; replace Ob := Ob.b hB; replace RI := RI.b hB; replace HB := bT HB hB; clear hB; have Rr := Rr'; clear Rr'; have HGG : Hid (w0.heap.size <= g) := hZ (by have := HLg.o.2; have := HgR.o; omega); clear hge_g hlt_g; have Hk : Hid (m.length - j = (m.length - (j + 1)) + 1) := hZ (by omega); rw [Hk.o] at Ob; have e0 : w3.cell? ⟨R, j, none⟩ = some (.slice none 0 0) := (Ob.o.cell j).trans (by rw [<- HL.o.1]; exact qCS); have e2 := Ob.o.frozen (j); obtain ⟨w4, hw⟩ := eX (w3.setCell ⟨R, j, none⟩ (.slice (some ⟨g, 0, none⟩) n n)); have ho : qAc (fun b => b = R) w3 w4 := by rw [<- hw]; exact (qAc.refl (fun b => b = R) _).set (p := ⟨R, j, none⟩) rfl _
   have hN : ∀ b, b = R -> qAg w3 b := fun b e => e ▸ Ob.o.noInt qEd; replace Ob := hZ ((by have h1 := Ob.o.set j (.slice (some ⟨g, 0, none⟩) n n); rw [hw, qFc n HL.o.1] at h1; exact h1)); replace RI := hZ (RI.o.only ho hN (fun i hi => by intro (e : _ = R); have := HL.o.2.1 i hi; omega)); replace Rr := hZ (Rr.o.only ho hN (by intro (e : _ = R); have := HLg.o.2; omega)); replace HB := hZ (qAj HB.o ho (fun b e => by have := HgR.o; omega) HB.o.size); clear ho hN
   go_wp2_with fail
   clear hw e0 e2; have HAl : Hid ((r ++ List.replicate m.length (0 : Int)).length = (List.replicate n (0 : Int)).length) := hZ (by have := Hr.o; simp; omega)
   go_loopw [43] (fun i wr => ∃ q : Nat, q <= c /\ i = .int .i64 q /\ Hid (qAE wr R 55 (rwZ n (l ++ [(g, n)]) (m.length - (j + 1)))) /\ Hid (qAC wr l n ((qAH m).take j)) /\ Hid (qAF wr g ((r ++ List.replicate m.length 0).take q ++ (List.replicate n 0).drop q)) /\ Hid (Below w0.heap.size w0 wr)) (fun i _ => c - (intOf i).toNat)
   case atStart => exact ⟨0, by omega, rfl, Ob, RI, hZ (by simpa using Rr.o), HB⟩
   case round =>
    clear Ob RI Rr HB; obtain ⟨q, hq, rfl, Ob, RI, Rr, HB⟩ := hrel; obtain ⟨w4, rfl⟩ := eY wr; by_cases hql : q < c
    ·skip
     have i3 : (0 : Int) <= (q : Int) := by omega
     have i4 : (q : Int) < (c : Int) := by omega
     have i5 : (q : Int) < (n : Int) := by omega
     have Hqr : Hid (q < r.length) := hZ (by have := Hr.o; omega); obtain ⟨b2, cap2, hv, hb2, n2⟩ := (qAo.below HI.o HB.o).at_ q Hqr.o; rw [Hr.o] at hv; injection hv with f1 f2 f3; subst f1; clear f2 f3; have Hz2 : Hid (-9223372036854775808 <= r[q]'Hqr.o /\ r[q]'Hqr.o <= 9223372036854775807) := hZ (Hsr.o _ (List.getElem_mem _)); obtain ⟨z, hz⟩ := eX (r[q]'Hqr.o); have HZ := hZ hz; rw [hz] at Hz2 n2; clear hz
     go_wp2_with fail
     clear n2; obtain ⟨w5, hwd⟩ := eX w4.drew; have hB := dB hwd; replace Ob := Ob.b hB; replace RI := RI.b hB; replace Rr := Rr.b hB; replace HB := bT HB hB; clear hB; have HBr : Hid (qAc (fun b => False) w5 w5) := hZ (qAc.refl _ _); refine qAx [8] (fun w' => qAc (fun b => False) w5 w') (by kernel_rfl) (by rw [hwd]; exact qAc.refl _ _) (fun hHeld => ?_); rw [hwd] at hHeld ⊢; clear hwd; have e0 : w5.cell? ⟨R, j, none⟩ = some (.slice (some ⟨g, 0, none⟩) n n) := (Ob.o.cell j).trans (by have h1 := HL.o.1; subst h1; rw [qHv (by simp)]; simp); refine pU 0 48 ?_; refine pU 1 49 ?_; refine pU 2 50 ?_; refine tU 3 51 (cF e0 Ob.o.lt) ?_; refine pU 4 52 ?_; refine pU 5 53 ?_; refine eU 6 fun K hK => ?_; go_simp; refine (qEt (w := w5) z Hz2.o.1 Hz2.o.2).mono ?_; rintro e w6 ⟨s_z, a_z, n_z, c_z, rfl, h_z, hB⟩; have Vz := hZ h_z; replace HBr := oT HBr hB; replace Ob := Ob.b hB; replace RI := RI.b hB; replace Rr := Rr.b hB; replace HB := bT HB hB; clear hB; clear h_z; refine hK.out _ _ HBr.o (fun hHeld => ?_); clear hK K
     try simp only [Act.put, sX1, sX2, sX3]
     refine pU 7 55 ?_; obtain ⟨s_9, a_9, n_9, c_9, e0, e1, -⟩ := Rr.o.get (q) (by rw [qCf HAl.o (by simp; omega)]; simp; omega); have e2 := Rr.o.frozen (q * 2); have e3 := Rr.o.frozen (q * 2 + 1); have hn9 : qAg w6 (g) := Rr.o.noInt; obtain ⟨w7, hw⟩ := eX ((w6.setCell ⟨g, q * 2, none⟩ (.bool s_z)).setCell ⟨g, q * 2 + 1, none⟩ (.slice a_z n_z c_z)); have hw2 : st2 w6 (g) (q * 2) (q * 2 + 1) s_z a_z n_z c_z = w7 := hw; replace Rr := hZ (qAF.put' Rr.o (q) (by rw [qCf HAl.o (by simp; omega)]; simp; omega) Vz.o); rw [hw2] at Rr; replace Ob := hZ (Ob.o.offe hw2 (by have := HLg.o.2; omega)); replace RI := hZ (qAC.off (g := g) (o1 := q * 2) (o2 := q * 2 + 1) (s := s_z) (a := a_z) (n' := n_z) (c := c_z) RI.o hn9 (fun i hi => by have := HLg.o.1 i hi; omega)); rw [hw2] at RI; replace Vz := hZ (Vz.o.offe hw2 hn9); replace HB := hZ (bO hw2 HB.o HGG.o); clear hw2 hn9; refine lU 8 fun K hK => ?_; go_simp
     try rw [hw]
     refine hK.out _ _ ?_; clear hK K
     try simp only [Act.put, sX1, sX2, sX3]
     clear hw e0 e1 e2 e3; refine dU ?_; clear hHeld; clear e0
     go_wp2_with fail
     have hAq : (r ++ List.replicate m.length (0 : Int))[q]'(by have := Hqr.o; simp; omega) = z := by rw [List.getElem_append_left Hqr.o, HZ.o]
     replace Rr : Hid (qAF w7 g ((r ++ List.replicate m.length 0).take (q + 1) ++ (List.replicate n 0).drop (q + 1))) := hZ (by have h1 := Rr.o; rw [<- hAq, qB2 HAl.o (by simp; omega)] at h1; exact h1); go_roundw
     case rel => exact ⟨q + 1, by omega, by go_num, Ob, RI, Rr, HB⟩
     case measure => simp [intOf]; omega
    ·skip
     obtain rfl : q = c := by omega
     obtain ⟨s, hs⟩ := eX (q + j); have hwr : IntKind.i64.wrap ((q : Int) + (j : Int)) = (s : Int) := by rw [IntWalk.i64_in _ (by omega)]; omega
     have j1 : (0 : Int) <= (s : Int) := by omega
     have j2 : (s : Int) < (n : Int) := by omega
     go_wp2_with fail
     obtain ⟨w5, hwd⟩ := eX w4.drew; have hB := dB hwd; replace Ob := Ob.b hB; replace RI := RI.b hB; replace Rr := Rr.b hB; replace HB := bT HB hB; clear hB; have HBr : Hid (qAc (fun b => False) w5 w5) := hZ (qAc.refl _ _); refine qAx [9] (fun w' => qAc (fun b => False) w5 w') (by kernel_rfl) (by rw [hwd]; exact qAc.refl _ _) (fun hHeld => ?_); rw [hwd] at hHeld ⊢; clear hwd; have e0 : w5.cell? ⟨R, j, none⟩ = some (.slice (some ⟨g, 0, none⟩) n n) := (Ob.o.cell j).trans (by have h1 := HL.o.1; subst h1; rw [qHv (by simp)]; simp); refine pU 0 57 ?_; refine pU 1 58 ?_; refine pU 2 59 ?_; refine tU 3 60 (cF e0 Ob.o.lt) ?_; refine pU 4 61 ?_; refine pU 5 62 ?_; refine pU 6 63 ?_; refine eU 7 fun K hK => ?_; go_simp; refine (qEt (w := w5) 1 (by omega) (by omega)).mono ?_; rintro e w6 ⟨s_z, a_z, n_z, c_z, rfl, h_z, hB⟩; have Vz := hZ h_z; replace HBr := oT HBr hB; replace Ob := Ob.b hB; replace RI := RI.b hB; replace Rr := Rr.b hB; replace HB := bT HB hB; clear hB; clear h_z; refine hK.out _ _ HBr.o (fun hHeld => ?_); clear hK K
     try simp only [Act.put, sX1, sX2, sX3]
     refine pU 8 65 ?_; obtain ⟨s_9, a_9, n_9, c_9, e0, e1, -⟩ := Rr.o.get (s) (by rw [qCf HAl.o (by simp; omega)]; simp; omega); have e2 := Rr.o.frozen (s * 2); have e3 := Rr.o.frozen (s * 2 + 1); have hn9 : qAg w6 (g) := Rr.o.noInt; obtain ⟨w7, hw⟩ := eX ((w6.setCell ⟨g, s * 2, none⟩ (.bool s_z)).setCell ⟨g, s * 2 + 1, none⟩ (.slice a_z n_z c_z)); have hw2 : st2 w6 (g) (s * 2) (s * 2 + 1) s_z a_z n_z c_z = w7 := hw; replace Rr := hZ (qAF.put' Rr.o (s) (by rw [qCf HAl.o (by simp; omega)]; simp; omega) Vz.o); rw [hw2] at Rr; replace Ob := hZ (Ob.o.offe hw2 (by have := HLg.o.2; omega)); replace RI := hZ (qAC.off (g := g) (o1 := s * 2) (o2 := s * 2 + 1) (s := s_z) (a := a_z) (n' := n_z) (c := c_z) RI.o hn9 (fun i hi => by have := HLg.o.1 i hi; omega)); rw [hw2] at RI; replace Vz := hZ (Vz.o.offe hw2 hn9); replace HB := hZ (bO hw2 HB.o HGG.o); clear hw2 hn9; refine lU 9 fun K hK => ?_; go_simp
     try rw [hw]
     refine hK.out _ _ ?_; clear hK K
     try simp only [Act.put, sX1, sX2, sX3]
     clear hw e0 e1 e2 e3; refine dU ?_; clear hHeld; clear e0
     go_wp2_with fail
     go_roundw
     case rel =>
      have hR := Rr.o; rw [<- hs, qG7 Hr.o hn.symm hlt] at hR; exact ⟨j + 1, l ++ [(g, n)], by omega, by go_num, hZ ⟨by have := HL.o.1; simp; omega, qB5 (P := fun (x : Rw) => R < x.1) HL.o.2.1 HLg.o.2, qB5 (P := fun (x : Rw) => x.2 = n) HL.o.2.2 rfl⟩, Ob, hZ (by rw [HM.o]; exact RI.o.snoc hR (by rw [qDE, Hr.o]; exact hn) (fun i hi => by have := HLg.o.1 i hi; omega) (Nat.le_refl _) (by omega)), HB⟩
     case measure => simp [intOf]; omega
  ·skip
   obtain rfl : j = m.length := by omega
   have h1 := Ob.o; rw [Nat.sub_self] at h1; have h2 := RI.o; rw [List.take_of_length_le (by rw [qAs]; exact Nat.le_refl _)] at h2; have h3 : qCd w2 R l n (qAH m) := ⟨by simpa [rwZ] using h1, h2, fun i hi => by have := HL.o.2.1 i hi; omega⟩; have h4 := h3.mat (c := m.length) (by have := HL.o.1; omega) (by omega); rw [HL.o.1] at h4; have HN := hZ (qEV w2 _ (qAH m) n c h4 (by rw [qAs]; exact hpos) (by rw [<- hn]; exact qGe Hn.o) (by omega) hn2 (by omega) (qG8 Hc.o.sml)); clear h1 h2 h3 h4
   go_wp2_with fail
   refine HN.o.mono ?_; rintro e w3 hP; obtain ⟨vr, Hm, rfl, hB, k1, k2, k3, k4⟩ := hP.small (by rw [qAs]; omega) hn2; have K1 := hZ k1; have K2 := hZ k2; have K3 := hZ (qD3 Hn.o k3); have HS := hZ k4; rw [qAs] at K2; clear HN hP k1 k2 k3 k4; have Hnc : Hid (n - c = m.length) := hZ (by omega); rw [Hnc.o] at K1; replace Ob := Ob.b hB; replace RI := RI.b hB; replace HB := bT HB hB; clear hB
   go_wp2_with fail
   refine HS.o.mono ?_; rintro e w4 ⟨hB, ⟨rfl, k5⟩ | ⟨u, rfl, k5, k6⟩⟩
   ·skip
    have K5 := hZ k5; clear k5; replace HB := bT HB hB; clear hB
    go_wp2_with fail
    exact bodyPost_ret (v := .tuple #[.slice none 0 0, .int .i64 4]) (by simp [results, Try.results18, go_sem]) rfl ⟨HB.o, .inr ⟨Hz.o, Hm, K3.o, K1.o, K2.o, .inl ⟨rfl, K5.o⟩⟩⟩
   ·skip
    have K5 := hZ k5; have K6 := hZ k6; clear k5 k6; replace HB := bT HB hB; clear hB
    go_wp2_with fail
    exact bodyPost_ret (v := .tuple #[u, .int .i64 0]) (by simp [results, Try.results18, go_sem]) rfl ⟨HB.o, .inr ⟨Hz.o, Hm, K3.o, K1.o, K2.o, .inr ⟨u, rfl, K5.o, K6.o⟩⟩⟩
def pv (r : List Int) : Nat := r.findIdx (fun x => !decide (x = 0))
theorem qLJ (r : List Int) : pv r <= r.length := List.findIdx_le_length
theorem qIQ {r : List Int} {c : Nat} (h : c < pv r) : vec r c = 0 := by
 have h1 := List.not_of_lt_findIdx h; have h2 := qLJ r; rw [qAk (by omega)]; simpa using h1
theorem qJI {r : List Int} (h : pv r < r.length) : vec r (pv r) ≠ 0 := by
 have := List.findIdx_getElem (w := h); rw [qAk h]; have h2 : (!decide (r[pv r] = 0)) = true := this; simpa using h2
theorem qLK {r : List Int} {q : Nat} (h : ∀ c, c < q -> vec r c = 0) (hq : q < r.length) (hz : vec r q ≠ 0) : pv r = q := by
 rcases Nat.lt_trichotomy (pv r) q with h1 | h1 | h1
 ·exact absurd (h _ h1) (qJI (by omega))
 ·exact h1
 ·exact absurd (qIQ h1) hz
theorem qKI {r : List Int} (h : ∀ c, c < r.length -> vec r c = 0) : pv r = r.length := by
 rcases Nat.lt_or_ge (pv r) r.length with h1 | h1
 ·exact absurd (h _ h1) (qJI h1)
 ·have := qLJ r; omega
def qMg (b : List (List Int)) (n i : Nat) : Prop := ∀ h : i < b.length, b[i].length = n /\ pv b[i] < n /\ 0 <= vec b[i] (pv b[i]) /\ (∀ k (hk : k < i), pv (b[k]'(by omega)) < pv b[i]) /\ ∀ k (hk : k < i), 0 <= vec (b[k]'(by omega)) (pv b[i]) /\ vec (b[k]'(by omega)) (pv b[i]) < vec b[i] (pv b[i])
def IsN (b : List (List Int)) (n : Nat) : Prop := ∀ i, i < b.length -> qMg b n i
theorem IsN.row {b : List (List Int)} {n : Nat} (h : IsN b n) (i : Nat) (hi : i < b.length) : b[i].length = n /\ pv b[i] < n /\ 0 < vec b[i] (pv b[i]) := by
 obtain ⟨h1, h2, h3, -, -⟩ := h i hi hi; have := qJI (r := b[i]) (by omega); exact ⟨h1, h2, by omega⟩
theorem IsN.piv {b : List (List Int)} {n : Nat} (h : IsN b n) (i : Nat) (hi : i < b.length) : qBN (vec b[i]) (pv b[i]) :=
 ⟨fun j hj => qIQ hj, qJI (by have := h.row i hi; omega)⟩
theorem IsN.nrm_ {b : List (List Int)} {n : Nat} (h : IsN b n) : ∀ (k i lo : Nat), i + k = b.length -> (∀ hi : i < b.length, lo <= pv b[i]) -> Nrm lo ((b.drop i).map vec)
 | 0, i, lo, hk, _ => by rw [List.drop_eq_nil_of_le (by omega)]; trivial
 | k + 1, i, lo, hk, hlo => by
  have hi : i < b.length := by omega
  rw [List.drop_eq_getElem_cons hi, List.map_cons]; refine ⟨pv b[i], hlo hi, h.piv i hi, (h.row i hi).2.2, h.nrm_ k (i + 1) _ (by omega) (fun hi2 => (h (i + 1) hi2 hi2).2.2.2.1 i (by omega)), fun s hs e hp => ?_⟩; obtain ⟨r, hr, rfl⟩ := List.mem_map.1 hs; obtain ⟨t, ht, rfl⟩ := List.mem_iff_getElem.1 hr; rw [List.length_drop] at ht; rw [List.getElem_drop] at hp ⊢; obtain rfl := hp.uniq (h.piv (i + 1 + t) (by omega)); exact (h (i + 1 + t) (by omega) (by omega)).2.2.2.2 i (by omega)
theorem IsN.nrm {b : List (List Int)} {n : Nat} (h : IsN b n) : Nrm 0 (b.map vec) := by simpa using h.nrm_ b.length 0 0 (by omega) (fun _ => Nat.zero_le _)
structure qCj (b : List (List Int)) (n : Nat) (v : List Int) (i : Nat) (rest : List Int) : Prop where
 len : rest.length = n
 iff_ : qAa (b.map vec) (vec v) ↔ qAa ((b.drop i).map vec) (vec rest)
theorem qCj.start {b : List (List Int)} {n : Nat} {v : List Int} (h : v.length = n) : qCj b n v 0 v := ⟨h, by simp⟩
theorem qCj.split {b : List (List Int)} {n : Nat} {v rest : List Int} {i : Nat} (hn : IsN b n) (h : qCj b n v i rest) (hi : i < b.length) :
 qAa (b.map vec) (vec v) ↔ ∃ x w, qAa ((b.drop (i + 1)).map vec) w /\ w (pv b[i]) = 0 /\ ∀ j, vec rest j = x * vec b[i] j + w j := by
 rw [h.iff_, List.drop_eq_getElem_cons hi, List.map_cons]; have hlow : ∀ w, qAa ((b.drop (i + 1)).map vec) w -> w (pv b[i]) = 0 := fun w hw =>
  (hn.nrm_ (b.length - (i + 1)) (i + 1) (pv b[i] + 1) (by omega) (fun hi2 => (hn (i + 1) hi2 hi2).2.2.2.1 i (by omega))).low hw _ (by omega)
 constructor
 ·intro hs
  obtain ⟨x, w, h1, h2⟩ := qBW hs; exact ⟨x, w, h1, hlow w h1, h2⟩
 ·rintro ⟨x, w, h1, -, h2⟩
  exact (((qAa.mem (by simp : vec b[i] ∈ vec b[i] :: (b.drop (i + 1)).map vec)).smul x).add (qBc h1)).congr (fun j => by rw [h2])
theorem qCj.fails {b : List (List Int)} {n : Nat} {v rest : List Int} {i : Nat} (hn : IsN b n) (h : qCj b n v i rest) (hi : i < b.length) (hr : vec rest (pv b[i]) % vec b[i] (pv b[i]) ≠ 0) : ¬ qAa (b.map vec) (vec v) := by
 rw [h.split hn hi]; rintro ⟨x, w, h1, h2, h3⟩; rw [h3, h2, Int.add_zero, Int.mul_emod_left] at hr; exact hr rfl
theorem qCj.step {b : List (List Int)} {n : Nat} {v rest rest' : List Int} {i : Nat} (hn : IsN b n) (h : qCj b n v i rest) (hi : i < b.length) (hr : vec rest (pv b[i]) % vec b[i] (pv b[i]) = 0) (hl : rest'.length = n)
 (he : ∀ j, vec rest' j = vec rest j - vec rest (pv b[i]) / vec b[i] (pv b[i]) * vec b[i] j) : qCj b n v (i + 1) rest' := by
 refine ⟨hl, (h.split hn hi).trans ⟨?_, ?_⟩⟩
 ·rintro ⟨x, w, h1, h2, h3⟩
  refine h1.congr (fun j => ?_); have hp := (hn.row i hi).2.2; rw [he, h3 (pv b[i]), h2, Int.add_zero, Int.mul_ediv_cancel _ (by omega), h3 j]; omega
 ·intro hs
  have hm := Int.emod_add_mul_ediv (vec rest (pv b[i])) (vec b[i] (pv b[i])); refine ⟨vec rest (pv b[i]) / vec b[i] (pv b[i]), vec rest', hs, ?_, fun j => by rw [he]; omega⟩; rw [he]; rw [Int.mul_comm] at hm; omega
theorem qCj.done {b : List (List Int)} {n : Nat} {v rest : List Int} (h : qCj b n v b.length rest) : qAa (b.map vec) (vec v) ↔ ∀ x ∈ rest, x = 0 := by
 rw [h.iff_, List.drop_eq_nil_of_le (Nat.le_refl _)]; constructor
 ·intro hs x hx
  obtain ⟨j, hj, rfl⟩ := List.mem_iff_getElem.1 hx; have := qB4 hs j
  rwa [qAk hj] at this
 ·intro h0
  refine qAa.zero.congr (fun j => ?_); rcases Nat.lt_or_ge j rest.length with hj | hj
  ·rw [qAk hj]; exact (h0 _ (List.getElem_mem hj)).symm
  ·rw [qAr hj]
def InB (b : List (List Int)) (v : List Int) : Prop := b.length <= 64 /\ v.length <= 128 /\ IsN b v.length /\ qAa (b.map vec) (vec v)
end Go.Proofs.Ytlmbebbdamgfpaa
