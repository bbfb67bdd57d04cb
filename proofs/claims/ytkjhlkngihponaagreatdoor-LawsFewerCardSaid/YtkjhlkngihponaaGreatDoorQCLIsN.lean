/- lattice.isNormal. -/
import Derived.Test.YtkjhlkngihponaaGreatDoorQCWDivide
import Derived.Test.YtkjhlkngihponaaGreatDoorQCLWiden
import Derived.Test.YtkjhlkngihponaaGreatDoorQCLSmall
import Derived.Test.YtkjhlkngihponaaGreatDoorQCLElP
set_option linter.unusedVariables false
set_option linter.unusedSimpArgs false
set_option maxHeartbeats 8000000
set_option maxRecDepth 100000
namespace Go.Proofs.YtkjhlkngihponaaGreatDoor
open Go.RowKit
theorem qBC {α : Type} {P : α -> Prop} {l : List α} {j : Nat} (hj : j < l.length) (h : ∀ x ∈ l.take j, P x) (h2 : P l[j]) : ∀ x ∈ l.take (j + 1), P x := by
 intro x hx; rw [List.take_succ_eq_append_getElem hj] at hx; rcases List.mem_append.1 hx with h3 | h3
 ·exact h x h3
 ·rw [List.mem_singleton.1 h3]; exact h2
theorem qMC (v : Value) (m : List (List Int)) (w : World) (h : qAR w v m) :
 Calls Tryz.prog 67 #[v] w fun e w' => e = .returned (.int .i64 (qBj m)) /\ Below w.heap.size w w' := by
 have H := hZ h; obtain ⟨av, cv, rfl, q1, q2⟩ := h.form; clear h; by_cases hr : 64 < m.length
 ·have r1 : (64 : Int) < (m.length : Int) := by omega
  have HZ := hZ (qI5 hr)
  go_enter Tryz.func67, Tryz.ntmps67
  go_wp2_with fail
  go_ret; exact ⟨by rw [HZ.o]; rfl, Below.refl _ _⟩
 ·have r1 : ¬ (64 : Int) < (m.length : Int) := by omega
  go_enter Tryz.func67, Tryz.ntmps67
  go_wp2_with fail
  go_loopw [16] (fun i wr => ∃ j : Nat, j <= m.length /\ i = .int .i64 j /\ Hid (∀ r ∈ m.take j, r.length <= 128) /\ Hid (Below w.heap.size w wr)) (fun i _ => m.length - (intOf i).toNat)
  case atStart => exact ⟨0, by omega, rfl, hZ (by simp), hZ (Below.refl _ _)⟩
  case round =>
   obtain ⟨j, hj, rfl, HT, HB⟩ := hrel; by_cases hlt : j < m.length
   ·obtain ⟨b, cap, a, c, hv, hb, n1, HI, g1, g2⟩ := (H.o.below HB.o).at_ j hlt
    injection hv with f1 f2 f3; subst f1; clear f2 f3; have i1 : (0 : Int) <= (j : Int) := by omega
    have i2 : (j : Int) < (m.length : Int) := by omega
    have HI := hZ HI; have HM : Hid (m[j] ∈ m) := hZ (List.getElem_mem hlt); have HS := hZ (fun h2 => qBC (P := fun r => r.length <= 128) hlt HT.o h2); clear HT; generalize m[j] = r at *; by_cases hx : 128 < r.length
    ·have s1 : (128 : Int) < (r.length : Int) := by omega
     have HZ := hZ (qI6 (by omega) HM.o hx)
     go_wp2_with fail
     go_ret; exact ⟨by rw [HZ.o]; rfl, HB.o⟩
    ·have s1 : ¬ (128 : Int) < (r.length : Int) := by omega
     go_wp2_with fail
     go_roundw
     case rel => exact ⟨j + 1, by omega, by go_num, hZ (HS.o (by omega)), HB⟩
     case measure => simp [intOf]; omega
   ·have hC : ∀ r ∈ m, r.length <= 128 := by have := HT.o; rwa [List.take_of_length_le (by omega)] at this
    have HC := hZ hC; clear hC HT
    go_wp2_with fail
    go_loopw [26] (fun i wr => ∃ j : Nat, j <= m.length /\ i = .int .i64 j /\ Hid (∀ r ∈ m.take j, r.length = (m[0]?.getD []).length) /\ Hid (Below w.heap.size w wr)) (fun i _ => m.length - (intOf i).toNat)
    case atStart => exact ⟨0, by omega, rfl, hZ (by simp), HB⟩
    case round =>
     clear HB hj hlt; obtain ⟨j, hj, rfl, HT, HB⟩ := hrel; by_cases hlt : j < m.length
     ·obtain ⟨b, cap, a, c, hv, hb, n1, HI, g1, g2⟩ := (H.o.below HB.o).at_ j hlt
      have h0 : 0 < m.length := by omega
      obtain ⟨b0, cap0, a0, c0, hv0, hb0, n0, HI0, g10, g20⟩ := (H.o.below HB.o).at_ 0 h0; injection hv with f1 f2 f3; subst f1; clear f2 f3; injection hv0 with f1 f2 f3; injection f1 with f1; injection f1 with f1; subst f1; clear f2 f3; have i1 : (0 : Int) <= (j : Int) := by omega
      have i2 : (j : Int) < (m.length : Int) := by omega
      have i3 : (0 : Int) < (m.length : Int) := by omega
      clear HI HI0; have HM : Hid (m[j] ∈ m) := hZ (List.getElem_mem hlt); have HS := hZ (fun h2 => qBC (P := fun r => r.length = (m[0]?.getD []).length) hlt HT.o h2); have HE : Hid ((m[0]?.getD []).length = m[0].length) := hZ (by simp [List.getElem?_eq_getElem h0]); have HZ := hZ (fun h3 => qKM (by omega) HC.o h0 HM.o h3); clear HT; generalize m[j] = r at *; generalize m[0] = r0 at *; by_cases hx : r.length = r0.length
      ·have s1 : ((r.length : Int) == (r0.length : Int)) = true := by simp [hx]
       have s2 : ((r.length : Int) != (r0.length : Int)) = false := by simp [hx]
       have s3 : (r.length == r0.length) = true := by simp [hx]
       have s4 : (r.length != r0.length) = false := by simp [hx]
       have HX := hZ hx; clear hx
       go_wp2_with fail
       go_roundw
       case rel => exact ⟨j + 1, by omega, by go_num, hZ (HS.o (by rw [HE.o]; exact HX.o)), HB⟩
       case measure => simp [intOf]; omega
      ·have s1 : ((r.length : Int) == (r0.length : Int)) = false := by simp; omega
       have s2 : ((r.length : Int) != (r0.length : Int)) = true := by simp; omega
       have s3 : (r.length == r0.length) = false := by simp; omega
       have s4 : (r.length != r0.length) = true := by simp; omega
       have HX := hZ (HZ.o hx); clear hx
       go_wp2_with fail
       go_ret; exact ⟨by rw [HX.o]; rfl, HB.o⟩
     ·have hE : ∀ r ∈ m, r.length = (m[0]?.getD []).length := by have := HT.o; rwa [List.take_of_length_le (by omega)] at this
      have HE := hZ hE; clear hE HT
      go_wp2_with fail
      go_loopw [40] (fun i wr => ∃ j : Nat, j <= m.length /\ i = .int .i64 j /\ Hid (∀ r ∈ m.take j, ∀ x ∈ r, -1099511627776 <= x /\ x <= 1099511627776) /\ Hid (Below w.heap.size w wr)) (fun i _ => m.length - (intOf i).toNat)
      case atStart => exact ⟨0, by omega, rfl, hZ (by simp), HB⟩
      case round =>
       clear HB hj hlt; obtain ⟨j, hj, rfl, HT, HB⟩ := hrel; by_cases hlt : j < m.length
       ·obtain ⟨b, cap, a, c, hv, hb, n1, HI, g1, g2⟩ := (H.o.below HB.o).at_ j hlt
        injection hv with f1 f2 f3; subst f1; clear f2 f3; have i1 : (0 : Int) <= (j : Int) := by omega
        have i2 : (j : Int) < (m.length : Int) := by omega
        have h0 : 0 < m.length := by omega
        have HI := hZ HI; have HM : Hid (m[j] ∈ m) := hZ (List.getElem_mem hlt); have HS := hZ (fun h2 => qBC (P := fun r => ∀ x ∈ r, -1099511627776 <= x /\ x <= 1099511627776) hlt HT.o h2); have HZ : Hid (∀ x ∈ m[j], (x < -1099511627776 \/ 1099511627776 < x) -> qBj m = 5) := hZ (fun x hx h4 => qKN (by omega) HC.o h0 (fun r hr => by rw [HE.o r hr]; simp [List.getElem?_eq_getElem h0]) HM.o hx h4); clear HT; generalize m[j] = r at *
        go_wp2_with fail
        go_loopw [46] (fun i w2 => ∃ k : Nat, k <= r.length /\ i = .int .i64 k /\ Hid (∀ x ∈ r.take k, -1099511627776 <= x /\ x <= 1099511627776) /\ Hid (Below wr.heap.size wr w2)) (fun i _ => r.length - (intOf i).toNat)
        case atStart => exact ⟨0, by omega, rfl, hZ (by simp), hZ (Below.refl _ _)⟩
        case round =>
         obtain ⟨k, hk, rfl, HT, HB2⟩ := hrel; by_cases hk2 : k < r.length
         ·obtain ⟨d, e1, hv1, hb1, m1⟩ := qAj.at_ (HI.o.below HB2.o) k hk2
          injection hv1 with f1 f2 f3; subst f1; clear f2 f3; have k1 : (0 : Int) <= (k : Int) := by omega
          have k2 : (k : Int) < (r.length : Int) := by omega
          have HT2 := hZ (fun h2 => qBC (P := fun x : Int => -1099511627776 <= x /\ x <= 1099511627776) hk2 HT.o h2); have HZ2 := hZ (HZ.o r[k] (List.getElem_mem hk2)); have HB3 := hZ (HB.o.trans (HB2.o.mono HB.o.size)); generalize r[k] = x at *; by_cases hx : x < -1099511627776
          ·have HX := hZ (HZ2.o (Or.inl hx))
           go_wp2_with fail
           go_ret; exact ⟨by rw [HX.o]; rfl, HB3.o⟩
          ·by_cases hx2 : 1099511627776 < x
           ·have HX := hZ (HZ2.o (Or.inr hx2))
            go_wp2_with fail
            go_ret; exact ⟨by rw [HX.o]; rfl, HB3.o⟩
           ·go_wp2_with fail
            go_roundw
            case rel => exact ⟨k + 1, by omega, by go_num, hZ (HT2.o ⟨by omega, by omega⟩), HB2⟩
            case measure => simp [intOf]; omega
         ·have HB3 := hZ (HB.o.trans (HB2.o.mono HB.o.size))
          have HS2 := hZ (HS.o (by have := HT.o; rwa [List.take_of_length_le (by omega)] at this))
          go_wp2_with fail
          go_roundw
          case rel => exact ⟨j + 1, by omega, by go_num, HS2, HB3⟩
          case measure => simp [intOf]; omega
       ·have HX := hZ (qFq.2 ⟨by omega, HC.o, HE.o, by have := HT.o; rwa [List.take_of_length_le (by omega)] at this⟩)
        go_wp2_with fail
        go_ret; exact ⟨by rw [HX.o]; rfl, HB.o⟩
def qBB (m : List (List Int)) : Nat := (m[0]?.getD []).length
theorem qDn.sml {m : List (List Int)} (h : qDn m) : Sml m := ⟨h.rows, fun r hr x hx => by
 have := h.small r hr x hx; have e : (2 : Nat) ^ 40 = 1099511627776 := by decide
 rw [e]; omega⟩
theorem qDn.len {m : List (List Int)} (h : qDn m) : ∀ r ∈ m, r.length = qBB m := h.even
theorem qDn.cols_ {m : List (List Int)} (h : qDn m) : qBB m <= 128 := by
 unfold qBB; cases m with
 | nil => simp
 | cons r m => simpa using h.cols r (by simp)
def qDJ (H : List (List Int)) (e : Ending) (w' : World) : Prop :=
 (e = .returned (.tuple #[.slice none 0 0, .int .i64 4]) /\ ∃ r ∈ H, ∃ x ∈ r, ¬ qKW x) \/ ∃ u, e = .returned (.tuple #[u, .int .i64 0]) /\ qAR w' u H /\ ∀ r ∈ H, ∀ x ∈ r, qKW x
theorem qGQ.small {w0 w : World} {m : List (List Int)} {n fr : Nat} {e : Ending} (h : qGQ w0 m n fr e w) (hm : m.length <= 64) (hn : n <= 1000) : ∃ vr H, e = .returned vr /\ Below w0.heap.size w0 w /\ (∀ r ∈ H, r.length = n - fr) /\ H.length <= m.length /\ qAO (m.map vec) fr (H.map vec) /\
 Calls Tryz.prog 68 #[vr] w fun e2 w2 => Below w.heap.size w w2 /\ qDJ H e2 w2 := by
 obtain ⟨vr, H, he, h1, h2, h3, h4, h5, h6⟩ := h; refine ⟨vr, H, he, h6, h2, h4, h5, (qKg vr H w h1 (by omega) (fun r hr => by rw [h2 r hr]; omega) (fun r hr x hx => (h3 r hr x hx).mono (by omega))).mono ?_⟩; rintro e2 w2 ⟨k1, k2⟩; exact ⟨k1, k2⟩
def qPC (w0 : World) (m : List (List Int)) (e : Ending) (w' : World) : Prop :=
 Below w0.heap.size w0 w' /\ ((qBj m ≠ 0 /\ e = .returned (.tuple #[.slice none 0 0, .int .i64 (qBj m)])) \/ (qBj m = 0 /\ ∃ H : List (List Int), qBt m (H.map vec) /\ (∀ r ∈ H, r.length = m.length) /\ H.length <= m.length /\ qDJ H e w'))
theorem qFX {n i : Nat} {r : List Int} : (qB0 n r i).length = r.length + n := by simp [qB0]
theorem qHt {m : List (List Int)} {c : Nat} (hc : ∀ r ∈ m, r.length = c) : ∀ r ∈ qAJ m, r.length = c + m.length := by
 intro r hr; obtain ⟨i, hi, rfl⟩ := List.mem_iff_getElem.1 hr; rw [qAp] at hi; rw [qA7 m i hi, qFX, hc _ (List.getElem_mem _)]
theorem qIF {m : List (List Int)} (h : Sml m) : Sml (qAJ m) := by
 refine ⟨by rw [qAp]; exact h.1, fun r hr x hx => ?_⟩; obtain ⟨i, hi, rfl⟩ := List.mem_iff_getElem.1 hr; rw [qAp] at hi; rw [qA7 m i hi, qB0] at hx; have h1 : (1 : Nat) <= 2 ^ 40 := Nat.pow_pos (by omega); rcases List.mem_append.1 hx with hx | hx
 ·exact h.2 _ (List.getElem_mem _) x hx
 ·rcases List.mem_or_eq_of_mem_set hx with hx | hx
  ·rw [(List.mem_replicate.1 hx).2]; exact Nat.zero_le _
  ·rw [hx]; exact h1
theorem qIE {row : List Int} {c r n j : Nat} (hc : row.length = c) (hn : n = c + r) (hj : j < r) : (((row ++ List.replicate r 0).take c ++ (List.replicate n 0).drop c).set (c + j) 1) = qB0 r row j := by
 subst hc hn; have e1 : (row ++ List.replicate r (0 : Int)).take row.length = row := by rw [List.take_left]
 have e2 : (List.replicate (row.length + r) (0 : Int)).drop row.length = List.replicate r 0 := by simp
 rw [e1, e2, List.set_append_right _ _ (by omega)]; simp [qB0]
theorem qKw (w0 : World) (v : Value) (m : List (List Int)) (h : qAR w0 v m) : Calls Tryz.prog 38 #[v] w0 (qPC w0 m) := by
 have H := hZ h; have HB := hZ (Below.refl w0.heap.size w0); obtain ⟨av, cv, rfl, q1, q2⟩ := h.form; clear h
 go_enter Tryz.func38, Tryz.ntmps38
 go_wp2_with fail
 refine (qMC _ m w0 H.o).mono ?_; rintro e w1 ⟨rfl, hB⟩; replace HB := bT HB hB; clear hB; by_cases hz : qBj m = 0; rotate_left
 ·have s1 : (qBj m != 0) = true := by simpa using hz
  have s2 : (qBj m == 0) = false := by simpa using hz
  have Hz := hZ hz; clear hz; obtain ⟨z, hz⟩ := eX (qBj m); have Hzz := hZ hz; rw [hz] at s1 s2 ⊢; clear hz
  go_wp2_with fail
  exact bodyPost_ret (v := .tuple #[.slice none 0 0, .int .i64 z]) (by simp [results, Tryz.results38, go_sem]) rfl ⟨HB.o, .inl ⟨Hz.o, by rw [Hzz.o]⟩⟩
 have Hc := hZ (qFq.1 hz); have Hz := hZ hz; have hrows := Hc.o.rows; have hcols := Hc.o.cols_; rw [hz]; clear hz; by_cases hm0 : m.length = 0
 ·have s1 : ((m.length : Int) == 0) = true := by simp [hm0]
  have s2 : (m.length == 0) = true := by simp [hm0]
  have Hm : Hid (m = []) := hZ (List.eq_nil_of_length_eq_zero hm0); have HK : Hid (qBt m (([] : List (List Int)).map vec)) := hZ (by
   rw [Hm.o]; refine ⟨trivial, fun v => ⟨fun h => ⟨fun j _ => qCl h j, fun j => rfl⟩, fun h => qAa.zero.congr (fun j => (h.1 j (Nat.zero_le _)).symm)⟩⟩)
  go_wp2_with fail
  exact bodyPost_ret (v := .tuple #[.slice none 0 0, .int .i64 0]) (by simp [results, Tryz.results38, go_sem]) rfl ⟨HB.o, .inr ⟨Hz.o, [], HK.o, by simp, by simp, .inr ⟨_, rfl, qAc.nil _ _ (by omega), by simp⟩⟩⟩
 have s1 : ((m.length : Int) == 0) = false := by rw [beq_eq_false_iff_ne]; omega
 have s2 : (m.length == 0) = false := by rw [beq_eq_false_iff_ne]; omega
 have hpos : 0 < m.length := by omega
 have hpos1 : (0 : Int) < (m.length : Int) := by omega
 obtain ⟨c, hc⟩ := eX (qBB m); rw [hc] at hcols; have Hn : Hid (∀ r ∈ m, r.length = c) := hZ (by rw [<- hc]; exact Hc.o.len); have Hs : Hid (∀ r ∈ m, ∀ x ∈ r, -9223372036854775808 <= x /\ x <= 9223372036854775807) := hZ (fun r hr x hx => by have := Hc.o.small r hr x hx; omega); clear hc; obtain ⟨b0, cap0, a0, c0, hv0, hb0, n0, -, -, -⟩ := H.o.at_ 0 hpos; rw [Hn.o _ (List.getElem_mem hpos)] at n0; injection hv0 with f1 f2 f3; subst f1; clear f2 f3; replace n0 := (HB.o.cell (p := ⟨b0, 0, none⟩) hb0).trans n0; obtain ⟨n, hn⟩ := eX (c + m.length); have hn2 : n <= 1000 := by omega
 have HSz := hZ HB.o.size
 go_wp2_with (at_make; refine qBy rfl rfl (m.length) rfl rfl rfl rfl (by omega) ?_)
 intro w2 h_9 hB hlt9; obtain ⟨R, hb⟩ := eX w1.heap.size; rw [hb] at h_9 ⊢; have Ob' := hZ h_9; have hge_R : Hid (w1.heap.size <= R) := hZ (Nat.le_of_eq hb); have hlt_R : Hid (R < w2.heap.size) := hZ (by rw [<- hb]; exact hlt9); clear h_9 hb hlt9; replace HB := bT HB hB; clear hB; have Ob := Ob'; clear Ob'; clear n0 s1 s2
 go_wp2_with fail
 have HgR : Hid (w0.heap.size <= R) := hZ (Nat.le_trans HSz.o hge_R.o); clear hge_R hlt_R
 go_loopw [28] (fun i wr => ∃ (j : Nat) (l : List Rw), j <= m.length /\ i = .int .i64 j /\ Hid (l.length = j /\ (∀ k (h : k < l.length), R < l[k].1) /\ ∀ k (h : k < l.length), l[k].2 = n) /\ Hid (qAm wr R 77 (rwZ n l (m.length - j))) /\ Hid (qAy wr l n ((qAJ m).take j)) /\ Hid (Below w0.heap.size w0 wr)) (fun i _ => m.length - (intOf i).toNat)
 case atStart => exact ⟨0, [], by omega, rfl, hZ ⟨rfl, fun k h => by simp at h, fun k h => by simp at h⟩, hZ (by simpa [rwZ] using Ob.o), hZ (qAy.nil _ _), HB⟩
 case round =>
  clear HB Ob; obtain ⟨j, l, hj, rfl, HL, Ob, RI, HB⟩ := hrel; obtain ⟨w2, rfl⟩ := eY wr; by_cases hlt : j < m.length
  ·skip
   obtain ⟨b, cap, a, cx, hv, hb, n1, HI, g1, g2⟩ := H.o.at_ j hlt; injection hv with f1 f2 f3; injection f1 with f1; injection f1 with f1; subst f1; clear f2 f3; have HI := hZ HI; have Hr : Hid (m[j].length = c) := hZ (Hn.o _ (List.getElem_mem hlt)); have Hsr : Hid (∀ x ∈ m[j], -9223372036854775808 <= x /\ x <= 9223372036854775807) := hZ (Hs.o _ (List.getElem_mem hlt)); have HM : Hid ((qAJ m).take (j + 1) = (qAJ m).take j ++ [qB0 m.length m[j] j]) := hZ (by rw [List.take_succ_eq_append_getElem (by rw [qAp]; exact hlt), qA7 m j hlt]); replace n1 := (HB.o.cell (p := ⟨b0, j, none⟩) hb).trans n1; generalize m[j] = r at *; have HI0 := hZ (And.intro HI.o g1); clear HI; rw [Hr.o] at n1 HI0; have i1 : (0 : Int) <= (j : Int) := by omega
   have i2 : (j : Int) < (m.length : Int) := by omega
   obtain ⟨HI1, g3⟩ := HI0.o; have HI := hZ HI1; clear HI0 HI1 g1; have g1 := g3; clear g3
   go_wp2_with (at_make; refine qAT rfl rfl (n) rfl rfl (by omega) (by omega) (by omega) ?_)
   intro w3 h_9 hB hlt9; obtain ⟨g, hb⟩ := eX w2.heap.size; rw [hb] at h_9 ⊢; have Rr' := hZ h_9; have hge_g : Hid (w2.heap.size <= g) := hZ (Nat.le_of_eq hb); have hlt_g : Hid (g < w3.heap.size) := hZ (by rw [<- hb]; exact hlt9); have HLg : Hid ((∀ k (h : k < l.length), l[k].1 < g) /\ R < g) := hZ ⟨fun k h => by rw [<- hb]; exact RI.o.lt k h, by rw [<- hb]; exact Ob.o.lt⟩; clear h_9 hb hlt9; replace Ob := Ob.b hB; replace RI := RI.b hB; replace HB := bT HB hB; clear hB; have Rr := Rr'; clear Rr'; have HGG : Hid (w0.heap.size <= g) := hZ (by have := HLg.o.2; have := HgR.o; omega); clear hge_g hlt_g; have Hk : Hid (m.length - j = (m.length - (j + 1)) + 1) := hZ (by omega); rw [Hk.o] at Ob; have e0 : w3.cell? ⟨R, j, none⟩ = some (.slice none 0 0) := (Ob.o.cell j).trans (by rw [<- HL.o.1]; exact qDe); have e2 := Ob.o.frozen (j); obtain ⟨w4, hw⟩ := eX (w3.setCell ⟨R, j, none⟩ (.slice (some ⟨g, 0, none⟩) n n)); have ho : qAb (fun b => b = R) w3 w4 := by rw [<- hw]; exact (qAb.refl (fun b => b = R) _).set (p := ⟨R, j, none⟩) rfl _
   have hN : ∀ b, b = R -> qAe w3 b := fun b e => e ▸ Ob.o.noInt qEO; replace Ob := hZ ((by have h1 := Ob.o.set j (.slice (some ⟨g, 0, none⟩) n n); rw [hw, qGg n HL.o.1] at h1; exact h1)); replace RI := hZ (RI.o.only ho hN (fun i hi => by intro (e : _ = R); have := HL.o.2.1 i hi; omega)); replace Rr := hZ (Rr.o.only ho hN (by intro (e : _ = R); have := HLg.o.2; omega)); replace HB := hZ (qBb HB.o ho (fun b e => by have := HgR.o; omega) HB.o.size); clear ho hN
   go_wp2_with fail
   clear hw e0 e2; have HAl : Hid ((r ++ List.replicate m.length (0 : Int)).length = (List.replicate n (0 : Int)).length) := hZ (by have := Hr.o; simp; omega)
   go_loopw [43] (fun i wr => ∃ q : Nat, q <= c /\ i = .int .i64 q /\ Hid (qAm wr R 77 (rwZ n (l ++ [(g, n)]) (m.length - (j + 1)))) /\ Hid (qAy wr l n ((qAJ m).take j)) /\ Hid (qAB wr g ((r ++ List.replicate m.length 0).take q ++ (List.replicate n 0).drop q)) /\ Hid (Below w0.heap.size w0 wr)) (fun i _ => c - (intOf i).toNat)
   case atStart => exact ⟨0, by omega, rfl, Ob, RI, hZ (by simpa using Rr.o), HB⟩
   case round =>
    clear Ob RI Rr HB; obtain ⟨q, hq, rfl, Ob, RI, Rr, HB⟩ := hrel; obtain ⟨w4, rfl⟩ := eY wr; by_cases hql : q < c
    ·skip
     have i3 : (0 : Int) <= (q : Int) := by omega
     have i4 : (q : Int) < (c : Int) := by omega
     have i5 : (q : Int) < (n : Int) := by omega
     have Hqr : Hid (q < r.length) := hZ (by have := Hr.o; omega); obtain ⟨b2, cap2, hv, hb2, n2⟩ := (qAj.below HI.o HB.o).at_ q Hqr.o; rw [Hr.o] at hv; injection hv with f1 f2 f3; subst f1; clear f2 f3; have Hz2 : Hid (-9223372036854775808 <= r[q]'Hqr.o /\ r[q]'Hqr.o <= 9223372036854775807) := hZ (Hsr.o _ (List.getElem_mem _)); obtain ⟨z, hz⟩ := eX (r[q]'Hqr.o); have HZ := hZ hz; rw [hz] at Hz2 n2; clear hz
     go_wp2_with fail
     clear n2; obtain ⟨w5, hwd⟩ := eX w4.drew; have hB := dB hwd; replace Ob := Ob.b hB; replace RI := RI.b hB; replace Rr := Rr.b hB; replace HB := bT HB hB; clear hB; have HBr : Hid (qAb (fun b => False) w5 w5) := hZ (qAb.refl _ _); refine qAG [8] (fun w' => qAb (fun b => False) w5 w') (by kernel_rfl) (by rw [hwd]; exact qAb.refl _ _) (fun hHeld => ?_); rw [hwd] at hHeld ⊢; clear hwd; have e0 : w5.cell? ⟨R, j, none⟩ = some (.slice (some ⟨g, 0, none⟩) n n) := (Ob.o.cell j).trans (by have h1 := HL.o.1; subst h1; rw [qJr (by simp)]; simp); refine pU 0 48 ?_; refine pU 1 49 ?_; refine pU 2 50 ?_; refine tU 3 51 (cF e0 Ob.o.lt) ?_; refine pU 4 52 ?_; refine pU 5 53 ?_; refine eU 6 fun K hK => ?_; go_simp; refine (qF2 (w := w5) z Hz2.o.1 Hz2.o.2).mono ?_; rintro e w6 ⟨s_z, a_z, n_z, c_z, rfl, h_z, hB⟩; have Vz := hZ h_z; replace HBr := oT HBr hB; replace Ob := Ob.b hB; replace RI := RI.b hB; replace Rr := Rr.b hB; replace HB := bT HB hB; clear hB; clear h_z; refine hK.out _ _ HBr.o (fun hHeld => ?_); clear hK K
     try simp only [Act.put, sX1, sX2, sX3]
     refine pU 7 55 ?_; obtain ⟨s_9, a_9, n_9, c_9, e0, e1, -⟩ := Rr.o.get (q) (by rw [qCc HAl.o (by simp; omega)]; simp; omega); have e2 := Rr.o.frozen (q * 2); have e3 := Rr.o.frozen (q * 2 + 1); have hn9 : qAe w6 (g) := Rr.o.noInt; obtain ⟨w7, hw⟩ := eX ((w6.setCell ⟨g, q * 2, none⟩ (.bool s_z)).setCell ⟨g, q * 2 + 1, none⟩ (.slice a_z n_z c_z)); have hw2 : st2 w6 (g) (q * 2) (q * 2 + 1) s_z a_z n_z c_z = w7 := hw; replace Rr := hZ (qAB.put' Rr.o (q) (by rw [qCc HAl.o (by simp; omega)]; simp; omega) Vz.o); rw [hw2] at Rr; replace Ob := hZ (Ob.o.offe hw2 (by have := HLg.o.2; omega)); replace RI := hZ (qAy.off (g := g) (o1 := q * 2) (o2 := q * 2 + 1) (s := s_z) (a := a_z) (n' := n_z) (c := c_z) RI.o hn9 (fun i hi => by have := HLg.o.1 i hi; omega)); rw [hw2] at RI; replace Vz := hZ (Vz.o.offe hw2 hn9); replace HB := hZ (bO hw2 HB.o HGG.o); clear hw2 hn9; refine lU 8 fun K hK => ?_; go_simp
     try rw [hw]
     refine hK.out _ _ ?_; clear hK K
     try simp only [Act.put, sX1, sX2, sX3]
     clear hw e0 e1 e2 e3; refine dU ?_; clear hHeld; clear e0
     go_wp2_with fail
     have hAq : (r ++ List.replicate m.length (0 : Int))[q]'(by have := Hqr.o; simp; omega) = z := by rw [List.getElem_append_left Hqr.o, HZ.o]
     replace Rr : Hid (qAB w7 g ((r ++ List.replicate m.length 0).take (q + 1) ++ (List.replicate n 0).drop (q + 1))) := hZ (by have h1 := Rr.o; rw [<- hAq, qCb HAl.o (by simp; omega)] at h1; exact h1); go_roundw
     case rel => exact ⟨q + 1, by omega, by go_num, Ob, RI, Rr, HB⟩
     case measure => simp [intOf]; omega
    ·skip
     obtain rfl : q = c := by omega
     obtain ⟨s, hs⟩ := eX (q + j); have hwr : IntKind.i64.wrap ((q : Int) + (j : Int)) = (s : Int) := by rw [IntWalk.i64_in _ (by omega)]; omega
     have j1 : (0 : Int) <= (s : Int) := by omega
     have j2 : (s : Int) < (n : Int) := by omega
     go_wp2_with fail
     obtain ⟨w5, hwd⟩ := eX w4.drew; have hB := dB hwd; replace Ob := Ob.b hB; replace RI := RI.b hB; replace Rr := Rr.b hB; replace HB := bT HB hB; clear hB; have HBr : Hid (qAb (fun b => False) w5 w5) := hZ (qAb.refl _ _); refine qAG [9] (fun w' => qAb (fun b => False) w5 w') (by kernel_rfl) (by rw [hwd]; exact qAb.refl _ _) (fun hHeld => ?_); rw [hwd] at hHeld ⊢; clear hwd; have e0 : w5.cell? ⟨R, j, none⟩ = some (.slice (some ⟨g, 0, none⟩) n n) := (Ob.o.cell j).trans (by have h1 := HL.o.1; subst h1; rw [qJr (by simp)]; simp); refine pU 0 57 ?_; refine pU 1 58 ?_; refine pU 2 59 ?_; refine tU 3 60 (cF e0 Ob.o.lt) ?_; refine pU 4 61 ?_; refine pU 5 62 ?_; refine pU 6 63 ?_; refine eU 7 fun K hK => ?_; go_simp; refine (qF2 (w := w5) 1 (by omega) (by omega)).mono ?_; rintro e w6 ⟨s_z, a_z, n_z, c_z, rfl, h_z, hB⟩; have Vz := hZ h_z; replace HBr := oT HBr hB; replace Ob := Ob.b hB; replace RI := RI.b hB; replace Rr := Rr.b hB; replace HB := bT HB hB; clear hB; clear h_z; refine hK.out _ _ HBr.o (fun hHeld => ?_); clear hK K
     try simp only [Act.put, sX1, sX2, sX3]
     refine pU 8 65 ?_; obtain ⟨s_9, a_9, n_9, c_9, e0, e1, -⟩ := Rr.o.get (s) (by rw [qCc HAl.o (by simp; omega)]; simp; omega); have e2 := Rr.o.frozen (s * 2); have e3 := Rr.o.frozen (s * 2 + 1); have hn9 : qAe w6 (g) := Rr.o.noInt; obtain ⟨w7, hw⟩ := eX ((w6.setCell ⟨g, s * 2, none⟩ (.bool s_z)).setCell ⟨g, s * 2 + 1, none⟩ (.slice a_z n_z c_z)); have hw2 : st2 w6 (g) (s * 2) (s * 2 + 1) s_z a_z n_z c_z = w7 := hw; replace Rr := hZ (qAB.put' Rr.o (s) (by rw [qCc HAl.o (by simp; omega)]; simp; omega) Vz.o); rw [hw2] at Rr; replace Ob := hZ (Ob.o.offe hw2 (by have := HLg.o.2; omega)); replace RI := hZ (qAy.off (g := g) (o1 := s * 2) (o2 := s * 2 + 1) (s := s_z) (a := a_z) (n' := n_z) (c := c_z) RI.o hn9 (fun i hi => by have := HLg.o.1 i hi; omega)); rw [hw2] at RI; replace Vz := hZ (Vz.o.offe hw2 hn9); replace HB := hZ (bO hw2 HB.o HGG.o); clear hw2 hn9; refine lU 9 fun K hK => ?_; go_simp
     try rw [hw]
     refine hK.out _ _ ?_; clear hK K
     try simp only [Act.put, sX1, sX2, sX3]
     clear hw e0 e1 e2 e3; refine dU ?_; clear hHeld; clear e0
     go_wp2_with fail
     go_roundw
     case rel =>
      have hR := Rr.o; rw [<- hs, qIE Hr.o hn.symm hlt] at hR; exact ⟨j + 1, l ++ [(g, n)], by omega, by go_num, hZ ⟨by have := HL.o.1; simp; omega, qBY (P := fun (x : Rw) => R < x.1) HL.o.2.1 HLg.o.2, qBY (P := fun (x : Rw) => x.2 = n) HL.o.2.2 rfl⟩, Ob, hZ (by rw [HM.o]; exact RI.o.snoc hR (by rw [qFX, Hr.o]; exact hn) (fun i hi => by have := HLg.o.1 i hi; omega) (Nat.le_refl _) (by omega)), HB⟩
     case measure => simp [intOf]; omega
  ·skip
   obtain rfl : j = m.length := by omega
   have h1 := Ob.o; rw [Nat.sub_self] at h1; have h2 := RI.o; rw [List.take_of_length_le (by rw [qAp]; exact Nat.le_refl _)] at h2; have h3 : qB7 w2 R l n (qAJ m) := ⟨by simpa [rwZ] using h1, h2, fun i hi => by have := HL.o.2.1 i hi; omega⟩; have h4 := h3.mat (c := m.length) (by have := HL.o.1; omega) (by omega); rw [HL.o.1] at h4; have HN := hZ (qKn w2 _ (qAJ m) n c h4 (by rw [qAp]; exact hpos) (by rw [<- hn]; exact qHt Hn.o) (by omega) hn2 (by omega) (qIF Hc.o.sml)); clear h1 h2 h3 h4
   go_wp2_with fail
   refine HN.o.mono ?_; rintro e w3 hP; obtain ⟨vr, Hm, rfl, hB, k1, k2, k3, k4⟩ := hP.small (by rw [qAp]; omega) hn2; have K1 := hZ k1; have K2 := hZ k2; have K3 := hZ (qNq Hn.o k3); have HS := hZ k4; rw [qAp] at K2; clear HN hP k1 k2 k3 k4; have Hnc : Hid (n - c = m.length) := hZ (by omega); rw [Hnc.o] at K1; replace Ob := Ob.b hB; replace RI := RI.b hB; replace HB := bT HB hB; clear hB
   go_wp2_with fail
   refine HS.o.mono ?_; rintro e w4 ⟨hB, ⟨rfl, k5⟩ | ⟨u, rfl, k5, k6⟩⟩
   ·skip
    have K5 := hZ k5; clear k5; replace HB := bT HB hB; clear hB
    go_wp2_with fail
    exact bodyPost_ret (v := .tuple #[.slice none 0 0, .int .i64 4]) (by simp [results, Tryz.results38, go_sem]) rfl ⟨HB.o, .inr ⟨Hz.o, Hm, K3.o, K1.o, K2.o, .inl ⟨rfl, K5.o⟩⟩⟩
   ·skip
    have K5 := hZ k5; have K6 := hZ k6; clear k5 k6; replace HB := bT HB hB; clear hB
    go_wp2_with fail
    exact bodyPost_ret (v := .tuple #[u, .int .i64 0]) (by simp [results, Tryz.results38, go_sem]) rfl ⟨HB.o, .inr ⟨Hz.o, Hm, K3.o, K1.o, K2.o, .inr ⟨u, rfl, K5.o, K6.o⟩⟩⟩
def pv (r : List Int) : Nat := r.findIdx (fun x => !decide (x = 0))
theorem qPS (r : List Int) : pv r <= r.length := List.findIdx_le_length
theorem qJu {r : List Int} {c : Nat} (h : c < pv r) : vec r c = 0 := by
 have h1 := List.not_of_lt_findIdx h; have h2 := qPS r; rw [qAi (by omega)]; simpa using h1
theorem qM3 {r : List Int} (h : pv r < r.length) : vec r (pv r) ≠ 0 := by
 have := List.findIdx_getElem (w := h); rw [qAi h]; have h2 : (!decide (r[pv r] = 0)) = true := this; simpa using h2
theorem qPT {r : List Int} {q : Nat} (h : ∀ c, c < q -> vec r c = 0) (hq : q < r.length) (hz : vec r q ≠ 0) : pv r = q := by
 rcases Nat.lt_trichotomy (pv r) q with h1 | h1 | h1
 ·exact absurd (h _ h1) (qM3 (by omega))
 ·exact h1
 ·exact absurd (qJu h1) hz
theorem qOG {r : List Int} (h : ∀ c, c < r.length -> vec r c = 0) : pv r = r.length := by
 rcases Nat.lt_or_ge (pv r) r.length with h1 | h1
 ·exact absurd (h _ h1) (qM3 h1)
 ·have := qPS r; omega
def qQo (b : List (List Int)) (n i : Nat) : Prop := ∀ h : i < b.length, b[i].length = n /\ pv b[i] < n /\ 0 <= vec b[i] (pv b[i]) /\ (∀ k (hk : k < i), pv (b[k]'(by omega)) < pv b[i]) /\ ∀ k (hk : k < i), 0 <= vec (b[k]'(by omega)) (pv b[i]) /\ vec (b[k]'(by omega)) (pv b[i]) < vec b[i] (pv b[i])
def IsN (b : List (List Int)) (n : Nat) : Prop := ∀ i, i < b.length -> qQo b n i
theorem IsN.row {b : List (List Int)} {n : Nat} (h : IsN b n) (i : Nat) (hi : i < b.length) : b[i].length = n /\ pv b[i] < n /\ 0 < vec b[i] (pv b[i]) := by
 obtain ⟨h1, h2, h3, -, -⟩ := h i hi hi; have := qM3 (r := b[i]) (by omega); exact ⟨h1, h2, by omega⟩
theorem IsN.piv {b : List (List Int)} {n : Nat} (h : IsN b n) (i : Nat) (hi : i < b.length) : qCA (vec b[i]) (pv b[i]) :=
 ⟨fun j hj => qJu hj, qM3 (by have := h.row i hi; omega)⟩
theorem IsN.nrm_ {b : List (List Int)} {n : Nat} (h : IsN b n) : ∀ (k i lo : Nat), i + k = b.length -> (∀ hi : i < b.length, lo <= pv b[i]) -> Nrm lo ((b.drop i).map vec)
 | 0, i, lo, hk, _ => by rw [List.drop_eq_nil_of_le (by omega)]; trivial
 | k + 1, i, lo, hk, hlo => by
  have hi : i < b.length := by omega
  rw [List.drop_eq_getElem_cons hi, List.map_cons]; refine ⟨pv b[i], hlo hi, h.piv i hi, (h.row i hi).2.2, h.nrm_ k (i + 1) _ (by omega) (fun hi2 => (h (i + 1) hi2 hi2).2.2.2.1 i (by omega)), fun s hs e hp => ?_⟩; obtain ⟨r, hr, rfl⟩ := List.mem_map.1 hs; obtain ⟨t, ht, rfl⟩ := List.mem_iff_getElem.1 hr; rw [List.length_drop] at ht; rw [List.getElem_drop] at hp ⊢; obtain rfl := hp.uniq (h.piv (i + 1 + t) (by omega)); exact (h (i + 1 + t) (by omega) (by omega)).2.2.2.2 i (by omega)
theorem IsN.nrm {b : List (List Int)} {n : Nat} (h : IsN b n) : Nrm 0 (b.map vec) := by simpa using h.nrm_ b.length 0 0 (by omega) (fun _ => Nat.zero_le _)
structure qCh (b : List (List Int)) (n : Nat) (v : List Int) (i : Nat) (rest : List Int) : Prop where
 len : rest.length = n
 iff_ : qAa (b.map vec) (vec v) ↔ qAa ((b.drop i).map vec) (vec rest)
theorem qCh.start {b : List (List Int)} {n : Nat} {v : List Int} (h : v.length = n) : qCh b n v 0 v := ⟨h, by simp⟩
theorem qCh.split {b : List (List Int)} {n : Nat} {v rest : List Int} {i : Nat} (hn : IsN b n) (h : qCh b n v i rest) (hi : i < b.length) :
 qAa (b.map vec) (vec v) ↔ ∃ x w, qAa ((b.drop (i + 1)).map vec) w /\ w (pv b[i]) = 0 /\ ∀ j, vec rest j = x * vec b[i] j + w j := by
 rw [h.iff_, List.drop_eq_getElem_cons hi, List.map_cons]; have hlow : ∀ w, qAa ((b.drop (i + 1)).map vec) w -> w (pv b[i]) = 0 := fun w hw =>
  (hn.nrm_ (b.length - (i + 1)) (i + 1) (pv b[i] + 1) (by omega) (fun hi2 => (hn (i + 1) hi2 hi2).2.2.2.1 i (by omega))).low hw _ (by omega)
 constructor
 ·intro hs
  obtain ⟨x, w, h1, h2⟩ := qCd hs; exact ⟨x, w, h1, hlow w h1, h2⟩
 ·rintro ⟨x, w, h1, -, h2⟩
  exact (((qAa.mem (by simp : vec b[i] ∈ vec b[i] :: (b.drop (i + 1)).map vec)).smul x).add (qBe h1)).congr (fun j => by rw [h2])
theorem qCh.fails {b : List (List Int)} {n : Nat} {v rest : List Int} {i : Nat} (hn : IsN b n) (h : qCh b n v i rest) (hi : i < b.length) (hr : vec rest (pv b[i]) % vec b[i] (pv b[i]) ≠ 0) : ¬ qAa (b.map vec) (vec v) := by
 rw [h.split hn hi]; rintro ⟨x, w, h1, h2, h3⟩; rw [h3, h2, Int.add_zero, Int.mul_emod_left] at hr; exact hr rfl
theorem qCh.step {b : List (List Int)} {n : Nat} {v rest rest' : List Int} {i : Nat} (hn : IsN b n) (h : qCh b n v i rest) (hi : i < b.length) (hr : vec rest (pv b[i]) % vec b[i] (pv b[i]) = 0) (hl : rest'.length = n)
 (he : ∀ j, vec rest' j = vec rest j - vec rest (pv b[i]) / vec b[i] (pv b[i]) * vec b[i] j) : qCh b n v (i + 1) rest' := by
 refine ⟨hl, (h.split hn hi).trans ⟨?_, ?_⟩⟩
 ·rintro ⟨x, w, h1, h2, h3⟩
  refine h1.congr (fun j => ?_); have hp := (hn.row i hi).2.2; rw [he, h3 (pv b[i]), h2, Int.add_zero, Int.mul_ediv_cancel _ (by omega), h3 j]; omega
 ·intro hs
  have hm := Int.emod_add_mul_ediv (vec rest (pv b[i])) (vec b[i] (pv b[i])); refine ⟨vec rest (pv b[i]) / vec b[i] (pv b[i]), vec rest', hs, ?_, fun j => by rw [he]; omega⟩; rw [he]; rw [Int.mul_comm] at hm; omega
theorem qCh.done {b : List (List Int)} {n : Nat} {v rest : List Int} (h : qCh b n v b.length rest) : qAa (b.map vec) (vec v) ↔ ∀ x ∈ rest, x = 0 := by
 rw [h.iff_, List.drop_eq_nil_of_le (Nat.le_refl _)]; constructor
 ·intro hs x hx
  obtain ⟨j, hj, rfl⟩ := List.mem_iff_getElem.1 hx; have := qCl hs j
  rwa [qAi hj] at this
 ·intro h0
  refine qAa.zero.congr (fun j => ?_); rcases Nat.lt_or_ge j rest.length with hj | hj
  ·rw [qAi hj]; exact (h0 _ (List.getElem_mem hj)).symm
  ·rw [qAo hj]
def InB (b : List (List Int)) (v : List Int) : Prop := b.length <= 64 /\ v.length <= 128 /\ IsN b v.length /\ qAa (b.map vec) (vec v)
theorem qGy {w : World} {a : Option Addr} {n c : Nat} {r : List Int} (h : qAj w (.slice a n c) r) (q : Nat) (hq : q < r.length) : ∃ b, a = some ⟨b, 0, none⟩ /\ n = r.length /\ b < w.heap.size /\ w.cell? ⟨b, q, none⟩ = some (.int .i64 (vec r q)) := by
 obtain ⟨b, cap, hv, h1, h2⟩ := h.at_ q hq; injection hv with e1 e2 e3; exact ⟨b, e1, e2, h1, by rw [qAi hq]; exact h2⟩
def qPE (w0 : World) (b : List (List Int)) (n : Nat) (e : Ending) (w' : World) : Prop :=
 Below w0.heap.size w0 w' /\ ((¬ IsN b n /\ e = .returned (.tuple #[.slice none 0 0, .bool false])) \/ (IsN b n /\ ∃ vp, e = .returned (.tuple #[vp, .bool true]) /\ qAj w' vp (b.map (fun r => (pv r : Int)))))
def qIC (b : List (List Int)) : Nat -> Int
 | 0 => -1
 | j + 1 => (pv (b[j]?.getD []) : Int)
theorem qNp (b : List (List Int)) (j q : Nat) : (q : Int) <= qIC b j ↔ ¬ (0 < j -> pv (b[j - 1]?.getD []) < q) := by
 cases j with
 | zero => simp [qIC]; omega
 | succ j => simp [qIC]
theorem qNu {b : List (List Int)} {n j : Nat} (h : ∀ i, i < j -> qQo b n i) (hj : j < b.length) (q : Nat) (hl : 0 < j -> pv (b[j - 1]?.getD []) < q) : ∀ k (hk : k < j), pv (b[k]'(by omega)) < q := by
 intro k hk; have h1 := hl (by omega); rw [List.getElem?_eq_getElem (show j - 1 < b.length by omega), Option.getD_some] at h1; by_cases e : k = j - 1
 ·subst e; exact h1
 ·have := (h (j - 1) (by omega) (by omega)).2.2.2.1 k (by omega)
  omega
theorem qHx (w0 : World) (v : Value) (b : List (List Int)) (n : Nat) (h : qAR w0 v b) (hb : b.length <= 1000) (hn : n <= 1000) : Calls Tryz.prog 48 #[v, .int .i64 n] w0 (qPE w0 b n) := by
 have H := hZ h; have HB := hZ (Below.refl w0.heap.size w0); obtain ⟨av, cv, rfl, q1, q2⟩ := h.form; clear h; obtain ⟨i0, hi, hz0, hz1, hz2⟩ := info_parts (show (Tryz.prog.info? 3).map (fun i => (i.zero, i.size, i.bytes)) = some (some (.int .i64 0), 1, 8) by kernel_rfl); have Hi := hZ hi; have Hz0 := hZ hz0; have Hz1 := hZ hz1; have Hz2 := hZ hz2; clear hi hz0 hz1 hz2
 go_enter Tryz.func48, Tryz.ntmps48
 go_wp2_with (at_make; refine wpList_make_own _ rfl _ _ 22 rfl w0.heap.size 3 i0 _ 1 Tryz.underlying22 Hi.o Hz0.o Hz1.o _ _ _ b.length rfl rfl rfl (by rw [Hz2.o]; omega) (by unfold maxLen; omega) (Nat.le_refl _) ?_)
 intro w1 hown hgr; have HO := hZ hown; replace HB := hZ (qB6 hgr); obtain ⟨g, hg⟩ := eX w0.heap.size; have Hg := hZ hg; rw [hg] at HO ⊢; clear hown hgr hg
 go_wp2_with fail
 go_loopw [18, 6, 7] (fun i vp last wr => ∃ (j : Nat) (cp : Nat) (ga : Option Addr), j <= b.length /\ i = .int .i64 j /\ vp = .slice ga j cp /\ j <= cp /\ cp <= 9223372036854775807 /\ last = .int .i64 (qIC b j) /\ Hid (∀ i, i < j -> qQo b n i) /\ Hid (wr.ownsRow g 3 1 (.slice ga j cp) j ((b.take j).map (fun r => zv (pv r)))) /\ Hid (Below w0.heap.size w0 wr)) (fun i _ _ _ => b.length - (intOf i).toNat)
 case atStart => exact ⟨0, b.length, _, by omega, rfl, rfl, by omega, by omega, rfl, hZ (fun i h => by omega), hZ (by simpa using HO.o), HB⟩
 case round =>
  clear HO HB; obtain ⟨j, cp, ga, hj, rfl, rfl, hcp, hcp2, rfl, HI, HO, HB⟩ := hrel; obtain ⟨w2, rfl⟩ := eY wr; by_cases hlt : j < b.length; rotate_left
  ·obtain rfl : j = b.length := by omega
   generalize qIC b b.length = lz at *
   go_wp2_with fail
   have h1 := HO.o; rw [List.take_of_length_le (Nat.le_refl _)] at h1; refine bodyPost_ret (v := .tuple #[.slice ga b.length cp, .bool true]) (by simp [results, Tryz.results48, go_sem]) rfl ⟨HB.o, .inr ⟨HI.o, _, rfl, ?_⟩⟩; refine qDj (base := g) (e := 3) ?_; rw [List.length_map, List.map_map]; exact h1
  have HLZ0 := qNp b j; obtain ⟨lz, hlz⟩ := eX (qIC b j); rw [hlz] at HLZ0 ⊢; have HLZ := hZ HLZ0; clear hlz HLZ0; obtain ⟨bb, cap, a, c, hv, hbb, n1, HR0, g1, g2⟩ := H.o.at_ j hlt; injection hv with f1 f2 f3; subst f1; clear f2 f3; replace n1 := (HB.o.cell (p := ⟨bb, j, none⟩) hbb).trans n1; have i1 : (0 : Int) <= (j : Int) := by omega
  have i2 : (j : Int) < (b.length : Int) := by omega
  have HR := hZ HR0; obtain ⟨r, hr⟩ := eX (b[j]); have Hr := hZ hr; rw [hr] at n1 HR g1; clear HR0 hr; have fails : ∀ {P : Prop}, (qQo b n j -> False) -> ¬ IsN b n := fun h1 h2 => h1 (h2 j hlt); have Hf := hZ (fun (h1 : qQo b n j -> False) => @fails True h1); clear fails; by_cases hrl : r.length = n; rotate_left
  ·have s1 : ((r.length : Int) != (n : Int)) = true := by simp; omega
   have s2 : (r.length != n) = true := by simp; omega
   have HF := hZ (Hf.o (fun h => hrl (by rw [<- Hr.o]; exact (h hlt).1)))
   go_wp2_with fail
   exact bodyPost_ret (v := .tuple #[.slice none 0 0, .bool false]) (by simp [results, Tryz.results48, go_sem]) rfl ⟨HB.o, .inl ⟨HF.o, rfl⟩⟩
  have s1 : ((r.length : Int) != (n : Int)) = false := by simp [hrl]
  have s2 : (r.length != n) = false := by simp [hrl]
  go_wp2_with fail
  clear n1
  go_loopw [10] (fun i wr => ∃ q : Nat, q <= n /\ i = .int .i64 q /\ Hid (∀ c, c < q -> vec r c = 0) /\ w2 = wr) (fun i _ => n - (intOf i).toNat)
  case atStart => exact ⟨0, by omega, rfl, hZ (fun c h => by omega), rfl⟩
  case round =>
   obtain ⟨q, hq, rfl, HZ, rfl⟩ := hrel; by_cases hqn : q = n
   ·-- no entry
    have HF := hZ (Hf.o (fun h => by
     have h1 := (h hlt).2.1; rw [Hr.o, qOG (fun c hc => HZ.o c (by omega))] at h1; omega))
    have t1 : ((q : Int) == (n : Int)) = true := by simp [hqn]
    have t2 : (q == n) = true := by simp [hqn]
    have t3 : ¬ (q : Int) < (n : Int) := by omega
    go_wp2_with fail
    exact bodyPost_ret (v := .tuple #[.slice none 0 0, .bool false]) (by simp [results, Tryz.results48, go_sem]) rfl ⟨HB.o, .inl ⟨HF.o, rfl⟩⟩
   have t1 : ((q : Int) == (n : Int)) = false := by rw [beq_eq_false_iff_ne]; omega
   have t2 : (q == n) = false := by rw [beq_eq_false_iff_ne]; omega
   have t3 : (q : Int) < (n : Int) := by omega
   have t4 : (0 : Int) <= (q : Int) := by omega
   have t5 : (q : Int) < (r.length : Int) := by omega
   obtain ⟨br, rfl, -, hbr, e0⟩ := qGy HR.o q (by omega); replace e0 := (HB.o.cell (p := ⟨br, q, none⟩) hbr).trans e0; obtain ⟨z, hz⟩ := eX (vec r q); have Hz := hZ hz; rw [hz] at e0; clear hz; by_cases hz0 : z = 0
   ·subst hz0
    go_wp2_with fail
    go_roundw
    case rel => exact ⟨q + 1, by omega, by go_num, hZ (fun c hc => if h : c < q then HZ.o c h else by rw [show c = q by omega]; exact Hz.o), by trivial⟩
    case measure => simp [intOf]; omega
   have u1 : (z == 0) = false := by rw [beq_eq_false_iff_ne]; exact hz0
   have Hpv : Hid (pv r = q) := hZ (qPT HZ.o (by omega) (by rw [Hz.o]; exact hz0)); by_cases hzn : z < 0
   ·have HF := hZ (Hf.o (fun h => by
     have h1 := (h hlt).2.2.1; rw [Hr.o, Hpv.o, Hz.o] at h1; omega))
    go_wp2_with fail
    exact bodyPost_ret (v := .tuple #[.slice none 0 0, .bool false]) (by simp [results, Tryz.results48, go_sem]) rfl ⟨HB.o, .inl ⟨HF.o, rfl⟩⟩
   have hzp : 0 < z := by omega
   by_cases hql : (q : Int) <= lz
   ·have HF := hZ (Hf.o (fun h => by
     refine (HLZ.o q).1 hql (fun h0 => ?_); have h1 := (h hlt).2.2.2.1 (j - 1) (by omega); rw [Hr.o, Hpv.o] at h1; rw [List.getElem?_eq_getElem (show j - 1 < b.length by omega), Option.getD_some]; exact h1))
    go_wp2_with fail
    exact bodyPost_ret (v := .tuple #[.slice none 0 0, .bool false]) (by simp [results, Tryz.results48, go_sem]) rfl ⟨HB.o, .inl ⟨HF.o, rfl⟩⟩
   have HLq : Hid (0 < j -> pv (b[j - 1]?.getD []) < q) := hZ (Classical.byContradiction (fun h => hql ((HLZ.o q).2 h))); have hjc : (j : Int) <= (cv : Int) := by omega
   have hjc2 : (j : Int) <= (b.length : Int) := by omega
   go_wp2_with fail
   clear e0
   go_loopw [58] (fun i wr => ∃ k : Nat, k <= j /\ i = .int .i64 k /\ Hid (∀ t (ht : t < k), t < j -> 0 <= vec (b[t]?.getD []) q /\ vec (b[t]?.getD []) q < z) /\ Hid (wr.ownsRow g 3 1 (.slice ga j cp) j ((b.take j).map (fun r => zv (pv r)))) /\ Hid (Below w0.heap.size w0 wr)) (fun i _ => j - (intOf i).toNat)
   case atStart => exact ⟨0, by omega, rfl, hZ (fun t h => by omega), HO, HB⟩
   case round =>
    clear HO HB; obtain ⟨k, hk, rfl, HA, HO, HB⟩ := hrel; obtain ⟨w2, rfl⟩ := eY wr; by_cases hkj : k < j
    ·have k1 : (0 : Int) <= (k : Int) := by omega
     have k2 : (k : Int) < (j : Int) := by omega
     obtain ⟨bb2, cap2, a2, c2, hv, hbb2, n1, HA0, g3, g4⟩ := H.o.at_ k (by omega); injection hv with f1 f2 f3; injection f1 with f1; injection f1 with f1; subst f1; clear f2 f3; have hak : b[k].length = n := (HI.o k hkj (by omega)).1; obtain ⟨ar, har⟩ := eX (b[k]'(by omega)); have Har := hZ har; rw [har] at n1 HA0 g3 hak; replace n1 := (HB.o.cell (p := ⟨bb, k, none⟩) hbb).trans n1; obtain ⟨ba, rfl, -, hba, e1⟩ := qGy HA0 q (by omega); replace e1 := (HB.o.cell (p := ⟨ba, q, none⟩) hba).trans e1; obtain ⟨y, hy⟩ := eX (vec ar q); have Hy := hZ hy; rw [hy] at e1; have hq2 : (q : Int) < (ar.length : Int) := by omega
     obtain ⟨br2, hbr2, -, -, e0⟩ := qGy HR.o q (by omega); injection hbr2 with hbr2; injection hbr2 with hbr2; subst hbr2; replace e0 := (HB.o.cell (p := ⟨br, q, none⟩) hbr).trans e0; rw [Hz.o] at e0; have HE0 := hZ e0; have HE1 := hZ e1; have Hba := hZ hba; have Hbr := hZ hbr; have HSz := hZ HB.o.size; clear HA0 har hy; clear e0 e1
     go_wp2_with fail
     clear n1; have HD0 := hZ (Below.refl w2.heap.size w2); by_cases hy0 : y < 0
     ·skip
      obtain ⟨w3, hwd⟩ := eX w2.drew; have hB := dB hwd; replace HB := bT HB hB; replace HD0 := bT HD0 hB; clear hB; have HBr : Hid (qAb (fun b => False) w3 w3) := hZ (qAb.refl _ _); refine qAG [] (fun w' => qAb (fun b => False) w3 w') (by kernel_rfl) (by rw [hwd]; exact qAb.refl _ _) (fun hHeld => ?_); rw [hwd] at hHeld ⊢; clear hwd; have f0 : w3.cell? ⟨br, q, none⟩ = some (.int .i64 z) := (HD0.o.cell (p := ⟨br, q, none⟩) (Nat.lt_of_lt_of_le Hbr.o HSz.o)).trans HE0.o; have f1 : w3.cell? ⟨ba, q, none⟩ = some (.int .i64 y) := (HD0.o.cell (p := ⟨ba, q, none⟩) (Nat.lt_of_lt_of_le Hba.o HSz.o)).trans HE1.o; have hlr : br < w3.heap.size := Nat.lt_of_lt_of_le (Nat.lt_of_lt_of_le Hbr.o HSz.o) HD0.o.size; have hla : ba < w3.heap.size := Nat.lt_of_lt_of_le (Nat.lt_of_lt_of_le Hba.o HSz.o) HD0.o.size; refine pU 0 62 ?_; refine pU 1 63 ?_; refine pU 2 64 ?_; refine tU 3 65 (cF f1 hla) ?_; refine pU 4 66 ?_; refine pU 5 67 ?_; refine sU 6 68 ?_; refine sU 7 69 ?_; refine sU 8 70 ?_; refine sU 9 71 ?_; refine sU 10 72 ?_; refine sU 11 73 ?_; refine sU 12 74 ?_; refine sU 13 75 ?_; refine sU 14 76 ?_; refine pU 15 77 ?_; refine dU ?_; clear hHeld; have HF := hZ (Hf.o (fun h => by
       have h1 := (h hlt).2.2.2.2 k hkj; rw [Hr.o, Har.o, Hpv.o, Hy.o] at h1; omega))
      go_wp2_with fail
      exact bodyPost_ret (v := .tuple #[.slice none 0 0, .bool false]) (by simp [results, Tryz.results48, go_sem]) rfl ⟨HB.o, .inl ⟨HF.o, rfl⟩⟩
     have hy1 : (y < 0) = False := by simp; omega
     by_cases hyz : y < z
     ·skip
      obtain ⟨w3, hwd⟩ := eX w2.drew; have hB := dB hwd; replace HB := bT HB hB; replace HD0 := bT HD0 hB; clear hB; have HBr : Hid (qAb (fun b => False) w3 w3) := hZ (qAb.refl _ _); refine qAG [] (fun w' => qAb (fun b => False) w3 w') (by kernel_rfl) (by rw [hwd]; exact qAb.refl _ _) (fun hHeld => ?_); rw [hwd] at hHeld ⊢; clear hwd; have f0 : w3.cell? ⟨br, q, none⟩ = some (.int .i64 z) := (HD0.o.cell (p := ⟨br, q, none⟩) (Nat.lt_of_lt_of_le Hbr.o HSz.o)).trans HE0.o; have f1 : w3.cell? ⟨ba, q, none⟩ = some (.int .i64 y) := (HD0.o.cell (p := ⟨ba, q, none⟩) (Nat.lt_of_lt_of_le Hba.o HSz.o)).trans HE1.o; have hlr : br < w3.heap.size := Nat.lt_of_lt_of_le (Nat.lt_of_lt_of_le Hbr.o HSz.o) HD0.o.size; have hla : ba < w3.heap.size := Nat.lt_of_lt_of_le (Nat.lt_of_lt_of_le Hba.o HSz.o) HD0.o.size; refine pU 0 62 ?_; refine pU 1 63 ?_; refine pU 2 64 ?_; refine tU 3 65 (cF f1 hla) ?_; refine pU 4 66 ?_; refine pU 5 67 ?_; refine pU 6 68 ?_; refine pU 7 69 ?_; refine pU 8 70 ?_; refine tU 9 71 (cF f1 hla) ?_; refine pU 10 72 ?_; refine pU 11 73 ?_; refine pU 12 74 ?_; refine tU 13 75 (cF f0 hlr) ?_; refine pU 14 76 ?_; refine pU 15 77 ?_; refine dU ?_; clear hHeld; replace HO := hZ ((qAb.of_below (S := fun _ => False) HD0.o).own HO.o (fun _ _ h => h))
      go_wp2_with fail
      go_roundw
      case rel => exact ⟨k + 1, by omega, by go_num, hZ (fun t ht htj => if h9 : t < k then HA.o t h9 htj else by rw [show t = k by omega, List.getElem?_eq_getElem (show k < b.length by omega), Option.getD_some, Har.o, Hy.o]; exact ⟨by omega, hyz⟩), HO, HB⟩
      case measure => simp [intOf]; omega
     ·skip
      obtain ⟨w3, hwd⟩ := eX w2.drew; have hB := dB hwd; replace HB := bT HB hB; replace HD0 := bT HD0 hB; clear hB; have HBr : Hid (qAb (fun b => False) w3 w3) := hZ (qAb.refl _ _); refine qAG [] (fun w' => qAb (fun b => False) w3 w') (by kernel_rfl) (by rw [hwd]; exact qAb.refl _ _) (fun hHeld => ?_); rw [hwd] at hHeld ⊢; clear hwd; have f0 : w3.cell? ⟨br, q, none⟩ = some (.int .i64 z) := (HD0.o.cell (p := ⟨br, q, none⟩) (Nat.lt_of_lt_of_le Hbr.o HSz.o)).trans HE0.o; have f1 : w3.cell? ⟨ba, q, none⟩ = some (.int .i64 y) := (HD0.o.cell (p := ⟨ba, q, none⟩) (Nat.lt_of_lt_of_le Hba.o HSz.o)).trans HE1.o; have hlr : br < w3.heap.size := Nat.lt_of_lt_of_le (Nat.lt_of_lt_of_le Hbr.o HSz.o) HD0.o.size; have hla : ba < w3.heap.size := Nat.lt_of_lt_of_le (Nat.lt_of_lt_of_le Hba.o HSz.o) HD0.o.size; refine pU 0 62 ?_; refine pU 1 63 ?_; refine pU 2 64 ?_; refine tU 3 65 (cF f1 hla) ?_; refine pU 4 66 ?_; refine pU 5 67 ?_; refine pU 6 68 ?_; refine pU 7 69 ?_; refine pU 8 70 ?_; refine tU 9 71 (cF f1 hla) ?_; refine pU 10 72 ?_; refine pU 11 73 ?_; refine pU 12 74 ?_; refine tU 13 75 (cF f0 hlr) ?_; refine pU 14 76 ?_; refine pU 15 77 ?_; refine dU ?_; clear hHeld; have HF := hZ (Hf.o (fun h => by
       have h1 := (h hlt).2.2.2.2 k hkj; rw [Hr.o, Har.o, Hpv.o, Hy.o, Hz.o] at h1; omega))
      go_wp2_with fail
      exact bodyPost_ret (v := .tuple #[.slice none 0 0, .bool false]) (by simp [results, Tryz.results48, go_sem]) rfl ⟨HB.o, .inl ⟨HF.o, rfl⟩⟩
    ·obtain rfl : k = j := by omega
     go_wp2_with (at_builtin; refine qAw (W0 := w0) qGG rfl _ _ rfl [.int .i64 (q : Int)] 3 _ _ _ rfl rfl rfl (by simp [Value.oneCell']) HO.o (by rw [<- Hg.o]; exact HB.o) (by rw [<- Hg.o]; exact HB.o.size) (by omega) (by omega) ?_)
     intro g9 cap9 w9 ho9 hb9 hon9 hc9 hgg; have hc10 : k + 1 <= cap9 := by
      rcases ho9.o.2 with ⟨hv, _⟩ | ⟨_, _, _, hv, _, _, h4, _, _⟩
      ·cases hv
      ·injection hv with _ _ e
       omega
     go_wp2_with fail
     have HT : b.take (k + 1) = b.take k ++ [b[k]] := List.take_succ_eq_append_getElem hlt; go_roundw
     case rel =>
      refine ⟨k + 1, cap9, _, by omega, by go_num, rfl, hc10, hc9, ?_, hZ (fun i hi => if h9 : i < k then HI.o i h9 else fun h8 => ?_), hZ ?_, hZ (by rw [Hg.o]; exact hb9.o)⟩
      ·simp only [qIC]
       rw [List.getElem?_eq_getElem hlt, Option.getD_some, Hr.o, Hpv.o]
      ·obtain rfl : i = k := by omega
       rw [Hr.o, Hpv.o, Hz.o]; refine ⟨hrl, by omega, by omega, qNu HI.o hlt q HLq.o, fun t ht => ?_⟩; have := HA.o t ht ht
       rwa [List.getElem?_eq_getElem (show t < b.length by omega), Option.getD_some] at this
      ·have h1 := ho9.o
       rw [HT, List.map_append, List.map_singleton, Hr.o, Hpv.o]; simpa [List.map_take, zv] using h1
     case measure => simp [intOf]; omega
end Go.Proofs.YtkjhlkngihponaaGreatDoor
