/- worldmintref06.IsNormal. -/
import Derived.Test.YtlmbebbdamgfpaaQLIsN
set_option linter.unusedVariables false
set_option linter.unusedSimpArgs false
set_option linter.unusedVariables false
set_option linter.unusedSimpArgs false
namespace Go.Proofs.Ytlmbebbdamgfpaa
open Go.RowKit

/-- what IsNormal answers -/
def RIsNPost (w0 : World) (b : List (List Int)) (n : Nat) (e : Ending) (w' : World) : Prop :=
 Below w0.heap.size w0 w' ∧ ∃ t : Bool, e = .returned (.bool t) ∧ (t = true ↔ IsN b n)
theorem RIsNPost.no {w0 w' : World} {b : List (List Int)} {n : Nat} (h : ¬ IsN b n) (hB : Below w0.heap.size w0 w') : RIsNPost w0 b n (.returned (.bool false)) w' := ⟨hB, false, rfl, by simp [h]⟩

set_option maxRecDepth 100000 in
set_option maxHeartbeats 8000000 in
theorem risn_any (w0 : World) (v : Value) (b : List (List Int)) (n : Nat) (h : MatAt w0 v b) (hb : b.length ≤ 1000) (hn : n ≤ 1000) : Calls Try.prog 20 #[v, .int .i64 n] w0 (RIsNPost w0 b n) := by
 have H := hZ h
 have HB := hZ (Below.refl w0.heap.size w0)
 obtain ⟨av, cv, rfl, q1, q2⟩ := h.form
 clear h
 go_enter Try.func20, Try.ntmps20
 go_wp2_with fail
 go_loopw [6, 5] (fun i last wr => ∃ (j : Nat), j ≤ b.length ∧ i = .int .i64 j ∧ last = .int .i64 (lastZ b j) ∧ Hid (∀ i, i < j → IsNi b n i) ∧ Hid (Below w0.heap.size w0 wr)) (fun i _ _ => b.length - (intOf i).toNat)
 case atStart => exact ⟨0, by omega, rfl, rfl, hZ (fun i h => by omega), HB⟩
 case round =>
  clear HB
  obtain ⟨j, hj, rfl, rfl, HI, HB⟩ := hrel
  obtain ⟨w2, rfl⟩ : ∃ w' : World, w' = wr := ⟨_, rfl⟩
  by_cases hlt : j < b.length
  rotate_left
  ·obtain rfl : j = b.length := by omega
   generalize lastZ b b.length = lz at *
   go_wp2_with fail
   go_ret
   exact ⟨HB.o, true, rfl, ⟨fun _ => HI.o, fun _ => rfl⟩⟩
  have HLZ0 := lastZ_le b j
  obtain ⟨lz, hlz⟩ : ∃ z : Int, lastZ b j = z := ⟨_, rfl⟩
  rw [hlz] at HLZ0 ⊢
  have HLZ := hZ HLZ0
  clear hlz HLZ0
  obtain ⟨bb, cap, a, c, hv, hbb, n1, HR0, g1, g2⟩ := H.o.at_ j hlt
  injection hv with f1 f2 f3
  subst f1
  clear f2 f3
  replace n1 := (HB.o.cell (p := ⟨bb, j, none⟩) hbb).trans n1
  have i1 : (0 : Int) ≤ (j : Int) := by omega
  have i2 : (j : Int) < (b.length : Int) := by omega
  have HR := hZ HR0
  obtain ⟨r, hr⟩ : ∃ r, b[j] = r := ⟨_, rfl⟩
  have Hr := hZ hr
  rw [hr] at n1 HR g1
  clear HR0 hr
  have fails : ∀ {P : Prop}, (IsNi b n j → False) → ¬ IsN b n := fun h1 h2 => h1 (h2 j hlt)
  have Hf := hZ (fun (h1 : IsNi b n j → False) => @fails True h1)
  clear fails
  by_cases hrl : r.length = n
  rotate_left
  ·have s1 : ((r.length : Int) != (n : Int)) = true := by simp; omega
   have s2 : (r.length != n) = true := by simp; omega
   have HF := hZ (Hf.o (fun h => hrl (by rw [← Hr.o]; exact (h hlt).1)))
   go_wp2_with fail
   go_ret
   exact RIsNPost.no HF.o HB.o
  have s1 : ((r.length : Int) != (n : Int)) = false := by simp [hrl]
  have s2 : (r.length != n) = false := by simp [hrl]
  go_wp2_with fail
  go_loopw [7] (fun i wr => ∃ q : Nat, q ≤ n ∧ i = .int .i64 q ∧ Hid (∀ c, c < q → vec r c = 0) ∧ w2 = wr) (fun i _ => n - (intOf i).toNat)
  case atStart => exact ⟨0, by omega, rfl, hZ (fun c h => by omega), rfl⟩
  case round =>
   obtain ⟨q, hq, rfl, HZ, rfl⟩ := hrel
   by_cases hqn : q = n
   ·-- no entry
    have HF := hZ (Hf.o (fun h => by
     have h1 := (h hlt).2.1
     rw [Hr.o, pv_none (fun c hc => HZ.o c (by omega))] at h1
     omega))
    have t1 : ((q : Int) == (n : Int)) = true := by simp [hqn]
    have t2 : (q == n) = true := by simp [hqn]
    have t3 : ¬ (q : Int) < (n : Int) := by omega
    go_wp2_with fail
    go_ret
    exact RIsNPost.no HF.o HB.o
   have t1 : ((q : Int) == (n : Int)) = false := by rw [beq_eq_false_iff_ne]; omega
   have t2 : (q == n) = false := by rw [beq_eq_false_iff_ne]; omega
   have t3 : (q : Int) < (n : Int) := by omega
   have t4 : (0 : Int) ≤ (q : Int) := by omega
   have t5 : (q : Int) < (r.length : Int) := by omega
   obtain ⟨br, rfl, -, hbr, e0⟩ := ints_vec HR.o q (by omega)
   replace e0 := (HB.o.cell (p := ⟨br, q, none⟩) hbr).trans e0
   obtain ⟨z, hz⟩ : ∃ z, vec r q = z := ⟨_, rfl⟩
   have Hz := hZ hz
   rw [hz] at e0
   clear hz
   by_cases hz0 : z = 0
   ·subst hz0
    go_wp2_with fail
    go_roundw
    case rel => exact ⟨q + 1, by omega, by go_num, hZ (fun c hc => if h : c < q then HZ.o c h else by rw [show c = q by omega]; exact Hz.o), by trivial⟩
    case measure => simp [intOf]; omega
   have u1 : (z == 0) = false := by rw [beq_eq_false_iff_ne]; exact hz0
   have Hpv : Hid (pv r = q) := hZ (pv_eq HZ.o (by omega) (by rw [Hz.o]; exact hz0))
   by_cases hql : (q : Int) ≤ lz
   ·have HF := hZ (Hf.o (fun h => by
     refine (HLZ.o q).1 hql (fun h0 => ?_)
     have h1 := (h hlt).2.2.2.1 (j - 1) (by omega)
     rw [Hr.o, Hpv.o] at h1
     rw [List.getElem?_eq_getElem (show j - 1 < b.length by omega), Option.getD_some]
     exact h1))
    go_wp2_with fail
    go_ret
    exact RIsNPost.no HF.o HB.o
   have HLq : Hid (0 < j → pv (b[j - 1]?.getD []) < q) := hZ (Classical.byContradiction (fun h => hql ((HLZ.o q).2 h)))
   by_cases hzn : z < 0
   ·have HF := hZ (Hf.o (fun h => by
     have h1 := (h hlt).2.2.1
     rw [Hr.o, Hpv.o, Hz.o] at h1
     omega))
    go_wp2_with fail
    go_ret
    exact RIsNPost.no HF.o HB.o
   have hzp : 0 < z := by omega
   go_wp2_with fail
   have HE0 := hZ e0
   have HN1 := hZ n1
   have Hbr := hZ hbr
   have Hbb := hZ hbb
   have HW2 := hZ HB.o.size
   clear e0 n1
   go_loopw [8] (fun i wr => ∃ k : Nat, k ≤ j ∧ i = .int .i64 k ∧ Hid (∀ t (ht : t < k), t < j → 0 ≤ vec (b[t]?.getD []) q ∧ vec (b[t]?.getD []) q < z) ∧ Hid (Below w0.heap.size w0 wr) ∧ Hid (Below w2.heap.size w2 wr)) (fun i _ => j - (intOf i).toNat)
   case atStart => exact ⟨0, by omega, rfl, hZ (fun t h => by omega), HB, hZ (Below.refl _ _)⟩
   case round =>
    clear HB
    obtain ⟨k, hk, rfl, HA, HB, HC⟩ := hrel
    obtain ⟨w3, rfl⟩ : ∃ w' : World, w' = wr := ⟨_, rfl⟩
    by_cases hkj : k < j
    ·have k1 : (0 : Int) ≤ (k : Int) := by omega
     have k2 : (k : Int) < (j : Int) := by omega
     have k3 : (k : Int) < (b.length : Int) := by omega
     obtain ⟨bb2, cap2, a2, c2, hv, hbb2, n0, HA0, g3, g4⟩ := H.o.at_ k (by omega)
     injection hv with f1 f2 f3
     injection f1 with f1
     injection f1 with f1
     subst f1
     clear f2 f3
     have hak : b[k].length = n := (HI.o k hkj (by omega)).1
     obtain ⟨ar, har⟩ : ∃ r, b[k]'(by omega) = r := ⟨_, rfl⟩
     have Har := hZ har
     rw [har] at n0 HA0 g3 hak
     obtain ⟨ba, rfl, -, hba, e1⟩ := ints_vec HA0 q (by omega)
     obtain ⟨y, hy⟩ : ∃ y, vec ar q = y := ⟨_, rfl⟩
     have Hy := hZ hy
     rw [hy] at e1
     have hq2 : (q : Int) < (ar.length : Int) := by omega
     have HE1 := hZ ((HB.o.cell (p := ⟨ba, q, none⟩) hba).trans e1)
     have HN0 := hZ ((HB.o.cell (p := ⟨bb, k, none⟩) hbb).trans n0)
     have HE2 := hZ ((HC.o.cell (p := ⟨br, q, none⟩) (Nat.lt_of_lt_of_le Hbr.o HW2.o)).trans HE0.o)
     have HN2 := hZ ((HC.o.cell (p := ⟨bb, j, none⟩) (Nat.lt_of_lt_of_le Hbb.o HW2.o)).trans HN1.o)
     have HL := hZ (show br < w3.heap.size ∧ ba < w3.heap.size ∧ bb < w3.heap.size from ⟨Nat.lt_of_lt_of_le Hbr.o HB.o.size, Nat.lt_of_lt_of_le hba HB.o.size, Nat.lt_of_lt_of_le Hbb.o HB.o.size⟩)
     clear HA0 har hy e1 n0
     go_wp2_with fail
     have HD0 := hZ (Below.refl w3.heap.size w3)
     by_cases hy0 : y < 0
     ·skip
      obtain ⟨w4, hwd⟩ : ∃ w', w3.drew = w' := ⟨_, rfl⟩
      have hB := dB hwd
      replace HB := bT HB hB
      replace HC := bT HC hB
      replace HD0 := bT HD0 hB
      clear hB
      have HBr : Hid (Only (fun b => False) w4 w4) := hZ (Only.refl _ _)
      refine startL [] (fun w' => Only (fun b => False) w4 w') (by kernel_rfl) (by rw [hwd]; exact Only.refl _ _) (fun hHeld => ?_)
      rw [hwd] at hHeld ⊢
      clear hwd
      have f0 : w4.cell? ⟨br, q, none⟩ = some (.int .i64 z) := (HD0.o.cell (p := ⟨br, q, none⟩) HL.o.1).trans HE2.o
      have f1 : w4.cell? ⟨ba, q, none⟩ = some (.int .i64 y) := (HD0.o.cell (p := ⟨ba, q, none⟩) HL.o.2.1).trans HE1.o
      have f2 := (HD0.o.cell (p := ⟨bb, k, none⟩) HL.o.2.2).trans HN0.o
      have f3 := (HD0.o.cell (p := ⟨bb, j, none⟩) HL.o.2.2).trans HN2.o
      have hlr : br < w4.heap.size := Nat.lt_of_lt_of_le HL.o.1 HD0.o.size
      have hla : ba < w4.heap.size := Nat.lt_of_lt_of_le HL.o.2.1 HD0.o.size
      have hlb : bb < w4.heap.size := Nat.lt_of_lt_of_le HL.o.2.2 HD0.o.size
      refine pP 0 61 (v := ?_) rfl rfl ?_ ?_
      rotate_left
      ·(intro w; go_simp; first | done | with_reducible rfl)
      simp only [sX1, sX2, sX3]
      refine pP 1 62 (v := ?_) rfl rfl ?_ ?_
      rotate_left
      ·(intro w; go_simp; first | done | with_reducible rfl)
      simp only [sX1, sX2, sX3]
      refine pP 2 63 (v := ?_) rfl rfl ?_ ?_
      rotate_left
      ·(intro w; go_simp; first | done | with_reducible rfl)
      simp only [sX1, sX2, sX3]
      refine tP 3 64 (v := ?_) rfl rfl ?_ ?_
      rotate_left
      ·(intro w hSw; have x0 := (hSw.cell (p := ⟨bb, k, none⟩) (fun h => h) hlb).trans f2; go_simp; first | done | with_reducible rfl)
      simp only [sX1, sX2, sX3]
      refine pP 4 65 (v := ?_) rfl rfl ?_ ?_
      rotate_left
      ·(intro w; go_simp; first | done | with_reducible rfl)
      simp only [sX1, sX2, sX3]
      refine pP 5 66 (v := ?_) rfl rfl ?_ ?_
      rotate_left
      ·(intro w; go_simp; first | done | with_reducible rfl)
      simp only [sX1, sX2, sX3]
      refine tP 6 67 (v := ?_) rfl rfl ?_ ?_
      rotate_left
      ·(intro w hSw; have x0 := (hSw.cell (p := ⟨ba, q, none⟩) (fun h => h) hla).trans f1; go_simp; first | done | with_reducible rfl)
      simp only [sX1, sX2, sX3]
      refine pP 7 68 (v := ?_) rfl rfl ?_ ?_
      rotate_left
      ·(intro w; go_simp; first | done | with_reducible rfl)
      simp only [sX1, sX2, sX3]
      refine pP 8 69 (v := ?_) rfl rfl ?_ ?_
      rotate_left
      ·(intro w; go_simp; first | done | with_reducible rfl)
      simp only [sX1, sX2, sX3]
      refine skipL 9 70 rfl rfl (by kernel_rfl) (by kernel_rfl) (by kernel_rfl) (by kernel_rfl) (by kernel_rfl) (fun _ _ _ h => h) (by rfl) (by assumption) ?_
      simp only [sX1, sX2, sX3]
      refine skipL 10 71 rfl rfl (by kernel_rfl) (by kernel_rfl) (by kernel_rfl) (by kernel_rfl) (by kernel_rfl) (fun _ _ _ h => h) (by rfl) (by assumption) ?_
      simp only [sX1, sX2, sX3]
      refine skipL 11 72 rfl rfl (by kernel_rfl) (by kernel_rfl) (by kernel_rfl) (by kernel_rfl) (by kernel_rfl) (fun _ _ _ h => h) (by rfl) (by assumption) ?_
      simp only [sX1, sX2, sX3]
      refine skipL 12 73 rfl rfl (by kernel_rfl) (by kernel_rfl) (by kernel_rfl) (by kernel_rfl) (by kernel_rfl) (fun _ _ _ h => h) (by rfl) (by assumption) ?_
      simp only [sX1, sX2, sX3]
      refine skipL 13 74 rfl rfl (by kernel_rfl) (by kernel_rfl) (by kernel_rfl) (by kernel_rfl) (by kernel_rfl) (fun _ _ _ h => h) (by rfl) (by assumption) ?_
      simp only [sX1, sX2, sX3]
      refine skipL 14 75 rfl rfl (by kernel_rfl) (by kernel_rfl) (by kernel_rfl) (by kernel_rfl) (by kernel_rfl) (fun _ _ _ h => h) (by rfl) (by assumption) ?_
      simp only [sX1, sX2, sX3]
      refine skipL 15 76 rfl rfl (by kernel_rfl) (by kernel_rfl) (by kernel_rfl) (by kernel_rfl) (by kernel_rfl) (fun _ _ _ h => h) (by rfl) (by assumption) ?_
      simp only [sX1, sX2, sX3]
      refine skipL 16 77 rfl rfl (by kernel_rfl) (by kernel_rfl) (by kernel_rfl) (by kernel_rfl) (by kernel_rfl) (fun _ _ _ h => h) (by rfl) (by assumption) ?_
      simp only [sX1, sX2, sX3]
      refine skipL 17 78 rfl rfl (by kernel_rfl) (by kernel_rfl) (by kernel_rfl) (by kernel_rfl) (by kernel_rfl) (fun _ _ _ h => h) (by rfl) (by assumption) ?_
      simp only [sX1, sX2, sX3]
      refine skipL 18 79 rfl rfl (by kernel_rfl) (by kernel_rfl) (by kernel_rfl) (by kernel_rfl) (by kernel_rfl) (fun _ _ _ h => h) (by rfl) (by assumption) ?_
      simp only [sX1, sX2, sX3]
      refine skipL 19 80 rfl rfl (by kernel_rfl) (by kernel_rfl) (by kernel_rfl) (by kernel_rfl) (by kernel_rfl) (fun _ _ _ h => h) (by rfl) (by assumption) ?_
      simp only [sX1, sX2, sX3]
      refine skipL 20 81 rfl rfl (by kernel_rfl) (by kernel_rfl) (by kernel_rfl) (by kernel_rfl) (by kernel_rfl) (fun _ _ _ h => h) (by rfl) (by assumption) ?_
      simp only [sX1, sX2, sX3]
      refine skipL 21 82 rfl rfl (by kernel_rfl) (by kernel_rfl) (by kernel_rfl) (by kernel_rfl) (by kernel_rfl) (fun _ _ _ h => h) (by rfl) (by assumption) ?_
      simp only [sX1, sX2, sX3]
      refine skipL 22 83 rfl rfl (by kernel_rfl) (by kernel_rfl) (by kernel_rfl) (by kernel_rfl) (by kernel_rfl) (fun _ _ _ h => h) (by rfl) (by assumption) ?_
      simp only [sX1, sX2, sX3]
      refine skipL 23 84 rfl rfl (by kernel_rfl) (by kernel_rfl) (by kernel_rfl) (by kernel_rfl) (by kernel_rfl) (fun _ _ _ h => h) (by rfl) (by assumption) ?_
      simp only [sX1, sX2, sX3]
      refine pP 24 85 (v := ?_) rfl rfl ?_ ?_
      rotate_left
      ·(intro w; go_simp; first | done | with_reducible rfl)
      simp only [sX1, sX2, sX3]
      refine doneL (by kernel_rfl) ?_ _
      clear hHeld
      have HF := hZ (Hf.o (fun h => by
       have h1 := (h hlt).2.2.2.2 k hkj
       rw [Hr.o, Har.o, Hpv.o, Hy.o] at h1
       omega))
      go_wp2_with fail
      go_ret
      exact RIsNPost.no HF.o HB.o
     have hy1 : (y < 0) = False := by simp; omega
     by_cases hyz : y < z
     ·skip
      obtain ⟨w4, hwd⟩ : ∃ w', w3.drew = w' := ⟨_, rfl⟩
      have hB := dB hwd
      replace HB := bT HB hB
      replace HC := bT HC hB
      replace HD0 := bT HD0 hB
      clear hB
      have HBr : Hid (Only (fun b => False) w4 w4) := hZ (Only.refl _ _)
      refine startL [] (fun w' => Only (fun b => False) w4 w') (by kernel_rfl) (by rw [hwd]; exact Only.refl _ _) (fun hHeld => ?_)
      rw [hwd] at hHeld ⊢
      clear hwd
      have f0 : w4.cell? ⟨br, q, none⟩ = some (.int .i64 z) := (HD0.o.cell (p := ⟨br, q, none⟩) HL.o.1).trans HE2.o
      have f1 : w4.cell? ⟨ba, q, none⟩ = some (.int .i64 y) := (HD0.o.cell (p := ⟨ba, q, none⟩) HL.o.2.1).trans HE1.o
      have f2 := (HD0.o.cell (p := ⟨bb, k, none⟩) HL.o.2.2).trans HN0.o
      have f3 := (HD0.o.cell (p := ⟨bb, j, none⟩) HL.o.2.2).trans HN2.o
      have hlr : br < w4.heap.size := Nat.lt_of_lt_of_le HL.o.1 HD0.o.size
      have hla : ba < w4.heap.size := Nat.lt_of_lt_of_le HL.o.2.1 HD0.o.size
      have hlb : bb < w4.heap.size := Nat.lt_of_lt_of_le HL.o.2.2 HD0.o.size
      refine pP 0 61 (v := ?_) rfl rfl ?_ ?_
      rotate_left
      ·(intro w; go_simp; first | done | with_reducible rfl)
      simp only [sX1, sX2, sX3]
      refine pP 1 62 (v := ?_) rfl rfl ?_ ?_
      rotate_left
      ·(intro w; go_simp; first | done | with_reducible rfl)
      simp only [sX1, sX2, sX3]
      refine pP 2 63 (v := ?_) rfl rfl ?_ ?_
      rotate_left
      ·(intro w; go_simp; first | done | with_reducible rfl)
      simp only [sX1, sX2, sX3]
      refine tP 3 64 (v := ?_) rfl rfl ?_ ?_
      rotate_left
      ·(intro w hSw; have x0 := (hSw.cell (p := ⟨bb, k, none⟩) (fun h => h) hlb).trans f2; go_simp; first | done | with_reducible rfl)
      simp only [sX1, sX2, sX3]
      refine pP 4 65 (v := ?_) rfl rfl ?_ ?_
      rotate_left
      ·(intro w; go_simp; first | done | with_reducible rfl)
      simp only [sX1, sX2, sX3]
      refine pP 5 66 (v := ?_) rfl rfl ?_ ?_
      rotate_left
      ·(intro w; go_simp; first | done | with_reducible rfl)
      simp only [sX1, sX2, sX3]
      refine tP 6 67 (v := ?_) rfl rfl ?_ ?_
      rotate_left
      ·(intro w hSw; have x0 := (hSw.cell (p := ⟨ba, q, none⟩) (fun h => h) hla).trans f1; go_simp; first | done | with_reducible rfl)
      simp only [sX1, sX2, sX3]
      refine pP 7 68 (v := ?_) rfl rfl ?_ ?_
      rotate_left
      ·(intro w; go_simp; first | done | with_reducible rfl)
      simp only [sX1, sX2, sX3]
      refine pP 8 69 (v := ?_) rfl rfl ?_ ?_
      rotate_left
      ·(intro w; go_simp; first | done | with_reducible rfl)
      simp only [sX1, sX2, sX3]
      refine pP 9 70 (v := ?_) rfl rfl ?_ ?_
      rotate_left
      ·(intro w; go_simp; first | done | with_reducible rfl)
      simp only [sX1, sX2, sX3]
      refine pP 10 71 (v := ?_) rfl rfl ?_ ?_
      rotate_left
      ·(intro w; go_simp; first | done | with_reducible rfl)
      simp only [sX1, sX2, sX3]
      refine pP 11 72 (v := ?_) rfl rfl ?_ ?_
      rotate_left
      ·(intro w; go_simp; first | done | with_reducible rfl)
      simp only [sX1, sX2, sX3]
      refine tP 12 73 (v := ?_) rfl rfl ?_ ?_
      rotate_left
      ·(intro w hSw; have x0 := (hSw.cell (p := ⟨bb, k, none⟩) (fun h => h) hlb).trans f2; go_simp; first | done | with_reducible rfl)
      simp only [sX1, sX2, sX3]
      refine pP 13 74 (v := ?_) rfl rfl ?_ ?_
      rotate_left
      ·(intro w; go_simp; first | done | with_reducible rfl)
      simp only [sX1, sX2, sX3]
      refine pP 14 75 (v := ?_) rfl rfl ?_ ?_
      rotate_left
      ·(intro w; go_simp; first | done | with_reducible rfl)
      simp only [sX1, sX2, sX3]
      refine tP 15 76 (v := ?_) rfl rfl ?_ ?_
      rotate_left
      ·(intro w hSw; have x0 := (hSw.cell (p := ⟨ba, q, none⟩) (fun h => h) hla).trans f1; go_simp; first | done | with_reducible rfl)
      simp only [sX1, sX2, sX3]
      refine pP 16 77 (v := ?_) rfl rfl ?_ ?_
      rotate_left
      ·(intro w; go_simp; first | done | with_reducible rfl)
      simp only [sX1, sX2, sX3]
      refine pP 17 78 (v := ?_) rfl rfl ?_ ?_
      rotate_left
      ·(intro w; go_simp; first | done | with_reducible rfl)
      simp only [sX1, sX2, sX3]
      refine pP 18 79 (v := ?_) rfl rfl ?_ ?_
      rotate_left
      ·(intro w; go_simp; first | done | with_reducible rfl)
      simp only [sX1, sX2, sX3]
      refine tP 19 80 (v := ?_) rfl rfl ?_ ?_
      rotate_left
      ·(intro w hSw; have x0 := (hSw.cell (p := ⟨bb, j, none⟩) (fun h => h) hlb).trans f3; go_simp; first | done | with_reducible rfl)
      simp only [sX1, sX2, sX3]
      refine pP 20 81 (v := ?_) rfl rfl ?_ ?_
      rotate_left
      ·(intro w; go_simp; first | done | with_reducible rfl)
      simp only [sX1, sX2, sX3]
      refine pP 21 82 (v := ?_) rfl rfl ?_ ?_
      rotate_left
      ·(intro w; go_simp; first | done | with_reducible rfl)
      simp only [sX1, sX2, sX3]
      refine tP 22 83 (v := ?_) rfl rfl ?_ ?_
      rotate_left
      ·(intro w hSw; have x0 := (hSw.cell (p := ⟨br, q, none⟩) (fun h => h) hlr).trans f0; go_simp; first | done | with_reducible rfl)
      simp only [sX1, sX2, sX3]
      refine pP 23 84 (v := ?_) rfl rfl ?_ ?_
      rotate_left
      ·(intro w; go_simp; first | done | with_reducible rfl)
      simp only [sX1, sX2, sX3]
      refine pP 24 85 (v := ?_) rfl rfl ?_ ?_
      rotate_left
      ·(intro w; go_simp; first | done | with_reducible rfl)
      simp only [sX1, sX2, sX3]
      refine doneL (by kernel_rfl) ?_ _
      clear hHeld
      go_wp2_with fail
      go_roundw
      case rel => exact ⟨k + 1, by omega, by go_num, hZ (fun t ht htj => if h9 : t < k then HA.o t h9 htj else by rw [show t = k by omega, List.getElem?_eq_getElem (show k < b.length by omega), Option.getD_some, Har.o, Hy.o]; exact ⟨by omega, hyz⟩), HB, HC⟩
      case measure => simp [intOf]; omega
     ·skip
      obtain ⟨w4, hwd⟩ : ∃ w', w3.drew = w' := ⟨_, rfl⟩
      have hB := dB hwd
      replace HB := bT HB hB
      replace HC := bT HC hB
      replace HD0 := bT HD0 hB
      clear hB
      have HBr : Hid (Only (fun b => False) w4 w4) := hZ (Only.refl _ _)
      refine startL [] (fun w' => Only (fun b => False) w4 w') (by kernel_rfl) (by rw [hwd]; exact Only.refl _ _) (fun hHeld => ?_)
      rw [hwd] at hHeld ⊢
      clear hwd
      have f0 : w4.cell? ⟨br, q, none⟩ = some (.int .i64 z) := (HD0.o.cell (p := ⟨br, q, none⟩) HL.o.1).trans HE2.o
      have f1 : w4.cell? ⟨ba, q, none⟩ = some (.int .i64 y) := (HD0.o.cell (p := ⟨ba, q, none⟩) HL.o.2.1).trans HE1.o
      have f2 := (HD0.o.cell (p := ⟨bb, k, none⟩) HL.o.2.2).trans HN0.o
      have f3 := (HD0.o.cell (p := ⟨bb, j, none⟩) HL.o.2.2).trans HN2.o
      have hlr : br < w4.heap.size := Nat.lt_of_lt_of_le HL.o.1 HD0.o.size
      have hla : ba < w4.heap.size := Nat.lt_of_lt_of_le HL.o.2.1 HD0.o.size
      have hlb : bb < w4.heap.size := Nat.lt_of_lt_of_le HL.o.2.2 HD0.o.size
      refine pP 0 61 (v := ?_) rfl rfl ?_ ?_
      rotate_left
      ·(intro w; go_simp; first | done | with_reducible rfl)
      simp only [sX1, sX2, sX3]
      refine pP 1 62 (v := ?_) rfl rfl ?_ ?_
      rotate_left
      ·(intro w; go_simp; first | done | with_reducible rfl)
      simp only [sX1, sX2, sX3]
      refine pP 2 63 (v := ?_) rfl rfl ?_ ?_
      rotate_left
      ·(intro w; go_simp; first | done | with_reducible rfl)
      simp only [sX1, sX2, sX3]
      refine tP 3 64 (v := ?_) rfl rfl ?_ ?_
      rotate_left
      ·(intro w hSw; have x0 := (hSw.cell (p := ⟨bb, k, none⟩) (fun h => h) hlb).trans f2; go_simp; first | done | with_reducible rfl)
      simp only [sX1, sX2, sX3]
      refine pP 4 65 (v := ?_) rfl rfl ?_ ?_
      rotate_left
      ·(intro w; go_simp; first | done | with_reducible rfl)
      simp only [sX1, sX2, sX3]
      refine pP 5 66 (v := ?_) rfl rfl ?_ ?_
      rotate_left
      ·(intro w; go_simp; first | done | with_reducible rfl)
      simp only [sX1, sX2, sX3]
      refine tP 6 67 (v := ?_) rfl rfl ?_ ?_
      rotate_left
      ·(intro w hSw; have x0 := (hSw.cell (p := ⟨ba, q, none⟩) (fun h => h) hla).trans f1; go_simp; first | done | with_reducible rfl)
      simp only [sX1, sX2, sX3]
      refine pP 7 68 (v := ?_) rfl rfl ?_ ?_
      rotate_left
      ·(intro w; go_simp; first | done | with_reducible rfl)
      simp only [sX1, sX2, sX3]
      refine pP 8 69 (v := ?_) rfl rfl ?_ ?_
      rotate_left
      ·(intro w; go_simp; first | done | with_reducible rfl)
      simp only [sX1, sX2, sX3]
      refine pP 9 70 (v := ?_) rfl rfl ?_ ?_
      rotate_left
      ·(intro w; go_simp; first | done | with_reducible rfl)
      simp only [sX1, sX2, sX3]
      refine pP 10 71 (v := ?_) rfl rfl ?_ ?_
      rotate_left
      ·(intro w; go_simp; first | done | with_reducible rfl)
      simp only [sX1, sX2, sX3]
      refine pP 11 72 (v := ?_) rfl rfl ?_ ?_
      rotate_left
      ·(intro w; go_simp; first | done | with_reducible rfl)
      simp only [sX1, sX2, sX3]
      refine tP 12 73 (v := ?_) rfl rfl ?_ ?_
      rotate_left
      ·(intro w hSw; have x0 := (hSw.cell (p := ⟨bb, k, none⟩) (fun h => h) hlb).trans f2; go_simp; first | done | with_reducible rfl)
      simp only [sX1, sX2, sX3]
      refine pP 13 74 (v := ?_) rfl rfl ?_ ?_
      rotate_left
      ·(intro w; go_simp; first | done | with_reducible rfl)
      simp only [sX1, sX2, sX3]
      refine pP 14 75 (v := ?_) rfl rfl ?_ ?_
      rotate_left
      ·(intro w; go_simp; first | done | with_reducible rfl)
      simp only [sX1, sX2, sX3]
      refine tP 15 76 (v := ?_) rfl rfl ?_ ?_
      rotate_left
      ·(intro w hSw; have x0 := (hSw.cell (p := ⟨ba, q, none⟩) (fun h => h) hla).trans f1; go_simp; first | done | with_reducible rfl)
      simp only [sX1, sX2, sX3]
      refine pP 16 77 (v := ?_) rfl rfl ?_ ?_
      rotate_left
      ·(intro w; go_simp; first | done | with_reducible rfl)
      simp only [sX1, sX2, sX3]
      refine pP 17 78 (v := ?_) rfl rfl ?_ ?_
      rotate_left
      ·(intro w; go_simp; first | done | with_reducible rfl)
      simp only [sX1, sX2, sX3]
      refine pP 18 79 (v := ?_) rfl rfl ?_ ?_
      rotate_left
      ·(intro w; go_simp; first | done | with_reducible rfl)
      simp only [sX1, sX2, sX3]
      refine tP 19 80 (v := ?_) rfl rfl ?_ ?_
      rotate_left
      ·(intro w hSw; have x0 := (hSw.cell (p := ⟨bb, j, none⟩) (fun h => h) hlb).trans f3; go_simp; first | done | with_reducible rfl)
      simp only [sX1, sX2, sX3]
      refine pP 20 81 (v := ?_) rfl rfl ?_ ?_
      rotate_left
      ·(intro w; go_simp; first | done | with_reducible rfl)
      simp only [sX1, sX2, sX3]
      refine pP 21 82 (v := ?_) rfl rfl ?_ ?_
      rotate_left
      ·(intro w; go_simp; first | done | with_reducible rfl)
      simp only [sX1, sX2, sX3]
      refine tP 22 83 (v := ?_) rfl rfl ?_ ?_
      rotate_left
      ·(intro w hSw; have x0 := (hSw.cell (p := ⟨br, q, none⟩) (fun h => h) hlr).trans f0; go_simp; first | done | with_reducible rfl)
      simp only [sX1, sX2, sX3]
      refine pP 23 84 (v := ?_) rfl rfl ?_ ?_
      rotate_left
      ·(intro w; go_simp; first | done | with_reducible rfl)
      simp only [sX1, sX2, sX3]
      refine pP 24 85 (v := ?_) rfl rfl ?_ ?_
      rotate_left
      ·(intro w; go_simp; first | done | with_reducible rfl)
      simp only [sX1, sX2, sX3]
      refine doneL (by kernel_rfl) ?_ _
      clear hHeld
      have HF := hZ (Hf.o (fun h => by
       have h1 := (h hlt).2.2.2.2 k hkj
       rw [Hr.o, Har.o, Hpv.o, Hy.o, Hz.o] at h1
       omega))
      go_wp2_with fail
      go_ret
      exact RIsNPost.no HF.o HB.o
    ·obtain rfl : k = j := by omega
     go_wp2_with fail
     go_roundw
     case rel =>
      refine ⟨k + 1, by omega, by go_num, ?_, hZ (fun i hi => if h9 : i < k then HI.o i h9 else fun h8 => ?_), HB⟩
      ·simp only [lastZ]
       rw [List.getElem?_eq_getElem hlt, Option.getD_some, Hr.o, Hpv.o]
      ·obtain rfl : i = k := by omega
       rw [Hr.o, Hpv.o, Hz.o]
       refine ⟨hrl, by omega, by omega, isn_last HI.o hlt q HLq.o, fun t ht => ?_⟩
       have := HA.o t ht ht
       rwa [List.getElem?_eq_getElem (show t < b.length by omega), Option.getD_some] at this
     case measure => simp [intOf]; omega
end Go.Proofs.Ytlmbebbdamgfpaa
