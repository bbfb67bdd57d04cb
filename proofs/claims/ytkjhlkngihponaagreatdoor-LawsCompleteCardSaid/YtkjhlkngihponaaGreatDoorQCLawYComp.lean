/- the law LawsComplete: its walk. -/
import Derived.Test.YtkjhlkngihponaaGreatDoorQCYLaw
import Derived.Test.YtkjhlkngihponaaGreatDoorQCLYMat
set_option linter.unusedVariables false
set_option linter.unusedSimpArgs false
set_option maxHeartbeats 8000000
set_option maxRecDepth 100000
namespace Go.Proofs.YtkjhlkngihponaaGreatDoor
open Go.RowKit
theorem qNC (k : Nat) (h : k <= 4) : 5 ^ k <= 625 := by
 have : k = 0 \/ k = 1 \/ k = 2 \/ k = 3 \/ k = 4 := by omega
 rcases this with rfl | rfl | rfl | rfl | rfl <;> decide
theorem qQd (a b : Int) (h1 : -2 <= a) (h2 : a <= 2) (h3 : 1 <= b) (h4 : b <= 3) : -6 <= a * b /\ a * b <= 6 := by
 have : b = 1 \/ b = 2 \/ b = 3 := by omega
 rcases this with rfl | rfl | rfl <;> omega
theorem qEn (v1 : Value) (zs1 : List Int) (n1 : Nat) (bal : Bool) (w : World) (h1 : qCy w v1 zs1 n1) (hK : qAS w) (hP : qCz w) :
 Calls Tryz.prog 3 #[v1, .bool bal] w fun e w' => e = .returned (.bool true) /\ Below w.heap.size w w' := by
 have HK := hZ hK; have HP := hZ hP; have HB := hZ (Below.refl w.heap.size w); have hcat := qFr v1 zs1 n1 bal w h1; have hp1 := qGl zs1 n1; obtain ⟨c, hcc⟩ := eX (qBm (qOL zs1 n1) bal); have hf := qFa (bal := bal) hp1; have hsm := qHB (bal := bal) hp1; have hn5 := qFY (bal := bal) hp1; rw [hcc] at hcat hf hsm hn5; have HF := hZ hf; have HS := hZ hsm; have HCAT := hZ hcat; clear h1 hK hP hcat hp1 hcc hf hsm
 go_enter Tryz.func3, Tryz.ntmps3
 go_wp2_with fail
 refine HCAT.o.mono ?_; clear HCAT; rintro e w1 ⟨⟨vi, vr, rfl, hc⟩, hB⟩; have HC := hZ hc; obtain ⟨ai, ci, rfl, hi1, hi2⟩ := hc.items.form; obtain ⟨ar, cr, rfl, hr1, hr2⟩ := hc.rules.form; replace HB := bT HB hB; clear hc hB; unfold qCB; obtain ⟨nr, hnr⟩ := eX c.rules.length; obtain ⟨ni, hni⟩ := eX c.items.length; have HNI := hZ hni; rw [hnr] at hr1 HC ⊢; rw [hni] at hi1 HC hn5 ⊢; clear hnr hni
 go_wp2_with fail
 obtain ⟨w2, hw2⟩ := eX (w1.alloc (.cells #[.slice ai ni ci, .slice ar nr cr, .slice none 0 0, .slice none 0 0] 28)); obtain ⟨bc, hbc⟩ := eX w1.heap.size; have hB : Below w1.heap.size w1 w2 := by rw [<- hw2]; exact aR
 have HX : Hid (qBA w2 bc (.slice ai ni ci) (.slice ar nr cr)) := hZ (hw2 ▸ hbc ▸ qBA.new w1 _ _ : qBA w2 bc (.slice ai ni ci) (.slice ar nr cr)); rw [hw2, hbc]; replace HB := bT HB hB; replace HC := hZ (HC.o.below hB); clear hw2 hbc hB; refine (qCe _ _ c w2 HC.o HF.o (by rw [HNI.o]; exact hn5) HS.o (HK.o.keep HB.o)).mono ?_; rintro e w5 ⟨⟨ua, K, rfl, hma, hba⟩, hB⟩; obtain ⟨aa, ca, rfl, hca1, hca2⟩ := hma.form; have MA := hZ hma; have HBA := hZ hba; obtain ⟨na, hna⟩ := eX K.length; rw [hna] at MA hca1 ⊢; replace HB := bT HB hB; replace HC := hZ (HC.o.below hB); replace HX := hZ (HX.o.below hB); clear hB hma hba hna; have x0 := HX.o.c0; have x1 := HX.o.c1; have x2 := HX.o.c2; have x3 := HX.o.c3; have xl := HX.o.lt
 go_wp2_with fail
 refine (qB9 _ _ c w5 HC.o HF.o.good HF.o.named HF.o.ni HF.o.nr (HK.o.keep HB.o)).mono ?_; rintro e w6 ⟨rfl, hB⟩; replace HB := bT HB hB; replace HC := hZ (HC.o.below hB); replace HX := hZ (HX.o.below hB); replace MA := hZ (MA.o.below hB); clear hB x0 x1 x2 x3 xl; have x0 := HX.o.c0; have x1 := HX.o.c1; have x2 := HX.o.c2; have x3 := HX.o.c3; have xl := HX.o.lt; by_cases hbig : 4 < ni
 ·go_wp2_with fail
  refine (qDW w6 (HK.o.keep HB.o) (HP.o.below HB.o HP.o.lt)).mono ?_; rintro e w9 ⟨rfl, hB⟩; replace HB := bT HB hB; clear hB
  go_wp2_with fail
  exact bodyPost_ret (v := .bool true) (by simp [results, Tryz.results3, go_sem]) rfl ⟨rfl, HB.o⟩
 ·have hn4 : ni <= 4 := by omega
  clear hn5; have q0 : decide ((4 : Int) < (ni : Int)) = false := decide_eq_false (by omega); have q1 : decide (4 < ni) = false := decide_eq_false hbig; clear hbig
  go_wp2_with fail
  clear q0 q1
  go_loop [9, 8] (fun iv tv => ∃ k : Nat, k <= ni /\ iv = .int .i64 k /\ tv = .int .i64 ((5 ^ k : Nat) : Int)) (fun iv _ => ni - (intOf iv).toNat)
  case atStart => exact ⟨0, by omega, rfl, rfl⟩
  case round =>
   obtain ⟨k, hk, rfl, rfl⟩ := hrel; have ht := qNC k (by omega); have HT : Hid (5 ^ (k + 1) = 5 ^ k * 5) := hZ (Nat.pow_succ ..); obtain ⟨t, htt⟩ := eX (5 ^ k); rw [htt] at ht HT ⊢; clear htt; by_cases hlt : k < ni
   ·have q1 : decide ((k : Int) < (ni : Int)) = true := decide_eq_true (by omega)
    have b1 : -9223372036854775808 <= (t : Int) * 5 := by omega
    have b2 : (t : Int) * 5 <= 9223372036854775807 := by omega
    go_wp2_with fail
    go_round
    case rel => exact ⟨k + 1, by omega, by go_num, by rw [HT.o, Int.natCast_mul]; rfl⟩
    case measure => simp [intOf]; omega
   ·have q1 : decide ((k : Int) < (ni : Int)) = false := decide_eq_false (by omega)
    go_wp2_with fail
    clear q1
    go_loopw [10] (fun jv wr => ∃ j : Nat, j <= t /\ jv = .int .i64 j /\ Hid (qA6 wr (.slice ai ni ci) (.slice ar nr cr) c) /\ Hid (qBA wr bc (.slice ai ni ci) (.slice ar nr cr)) /\ Hid (qAR wr (.slice aa na ca) K) /\ Hid (Below w.heap.size w wr)) (fun jv _ => t - (intOf jv).toNat)
    case atStart => exact ⟨0, by omega, rfl, HC, HX, MA, HB⟩
    case round =>
     clear HC HX MA HB x0 x1 x2 x3 xl; obtain ⟨j, hj, rfl, HC, HX, MA, HB⟩ := hrel; obtain ⟨wl, rfl⟩ := eY wr; have x0 := HX.o.c0; have x1 := HX.o.c1; have x2 := HX.o.c2; have x3 := HX.o.c3; have xl := HX.o.lt; by_cases hjt : j < t
     ·have q1 : decide ((j : Int) < (t : Int)) = true := decide_eq_true (by omega)
      go_wp2_with (at_make; refine qCv rfl rfl (ni) rfl rfl rfl rfl (by omega) ?_)
      intro w7 hmk hB hlt7; obtain ⟨g, hg⟩ := eX wl.heap.size; have HG := hZ hg; have HO : Hid (qAm w7 g 3 ((List.replicate ni (0 : Int)).map zv)) := hZ (by rw [<- hg, List.map_replicate]; simpa [zv] using hmk); have HBW : Hid (Below g wl w7) := hZ (by rw [<- hg]; exact hB); rw [hg]; clear hmk hB hlt7 hg q1 x0 x1 x2 x3 xl
      go_wp2_with fail
      go_loopw [13, 12] (fun iv rv wr => ∃ (i r : Nat) (cs : List Int), i <= ni /\ r <= 625 /\ iv = .int .i64 i /\ rv = .int .i64 r /\ Hid (cs.length = ni /\ ∀ x ∈ cs, -6 <= x /\ x <= 6) /\ Hid (qAm wr g 3 (cs.map zv)) /\ Hid (Below g wl wr)) (fun iv _ _ => ni - (intOf iv).toNat)
      case atStart => exact ⟨0, j, List.replicate ni 0, by omega, by omega, rfl, rfl, hZ ⟨by simp, fun x hx => by rw [(List.mem_replicate.1 hx).2]; omega⟩, HO, HBW⟩
      case round =>
       clear HO HBW; obtain ⟨i, r, cs, hi, hr, rfl, rfl, HCS, HO, HBW⟩ := hrel; obtain ⟨w8, rfl⟩ := eY wr; by_cases hin : i < ni
       ·have q1 : decide ((i : Int) < (ni : Int)) = true := decide_eq_true (by omega)
        have i1 : (0 : Int) <= (i : Int) := by omega
        have i2 : (i : Int) < (ni : Int) := by omega
        have hm5 : Int.tmod (r : Int) 5 = ((r % 5 : Nat) : Int) := rfl; have hm3 : Int.tmod (j : Int) 3 = ((j % 3 : Nat) : Int) := rfl; have hd5 : Int.tdiv (r : Int) 5 = ((r / 5 : Nat) : Int) := rfl; have y3 := HO.o.frozen i; have y2 : w8.cell? ⟨g, i, none⟩ = some (zv (cs[i]'(by rw [HCS.o.1]; exact hin))) := by
         rw [HO.o.cell, List.getElem?_map, List.getElem?_eq_getElem (by rw [HCS.o.1]; exact hin)]; rfl
        have hlt5 : r % 5 < 5 := Nat.mod_lt _ (by omega); have hlt3 : j % 3 < 3 := Nat.mod_lt _ (by omega); have hdv : r / 5 <= 625 := by omega
        obtain ⟨p, hp⟩ := eX (r % 5); obtain ⟨q, hq⟩ := eX (j % 3); obtain ⟨d, hd⟩ := eX (r / 5); rw [hp] at hm5 hlt5; rw [hq] at hm3 hlt3; rw [hd] at hd5 hdv; have hpr := qQd ((p : Int) - 2) (1 + (q : Int)) (by omega) (by omega) (by omega) (by omega); have HPR := hZ hpr; obtain ⟨z, hz⟩ := eX (((p : Int) - 2) * (1 + (q : Int))); rw [hz] at hpr HPR; clear hp hq hd
        go_wp2_with fail
        obtain ⟨w9, hw9⟩ := eX (w8.setCell ⟨g, i, none⟩ (.int .i64 z)); have HO9 : Hid (qAm w9 g 3 ((cs.set i z).map zv)) := hZ (by rw [<- hw9, List.map_set]; exact HO.o.set i (zv z)); have HB9 : Hid (Below g wl w9) := hZ (by rw [<- hw9]; exact HBW.o.setCell (p := ⟨g, i, none⟩) (Nat.le_refl _) _); have HC9 : Hid ((cs.set i z).length = ni /\ ∀ x ∈ cs.set i z, -6 <= x /\ x <= 6) := hZ ⟨by rw [List.length_set]; exact HCS.o.1, fun q hq => by
         rcases List.mem_or_eq_of_mem_set hq with h | h
         ·exact HCS.o.2 q h
         ·rw [h]; exact HPR.o⟩
        try rw [hw9]
        clear hw9 y2 y3 hm5 hm3 hd5; go_roundw
        case rel => exact ⟨i + 1, d, cs.set i z, by omega, by omega, by go_num, rfl, HC9, HO9, HB9⟩
        case measure => simp [intOf]; omega
       ·have q1 : decide ((i : Int) < (ni : Int)) = false := decide_eq_false (by omega)
        have HWI : Hid (qAj w8 (.slice (some ⟨g, 0, none⟩) ni ni) cs) := hZ (qAj.lit HO.o HCS.o.1 (by omega)); have H64 : Hid (B64 cs) := hZ (fun x hx => by have := HCS.o.2 x hx; omega); have hB : Below wl.heap.size wl w8 := by rw [HG.o]; exact HBW.o
        replace HB := bT HB hB; replace HC := hZ (HC.o.below hB); replace HX := hZ (HX.o.below hB); replace MA := hZ (MA.o.below hB); clear hB HO HBW; have x0 := HX.o.c0; have x1 := HX.o.c1; have x2 := HX.o.c2; have x3 := HX.o.c3; have xl := HX.o.lt
        go_wp2_with fail
        clear q1 x0 x1 x2 x3 xl; refine (callsIn_wide.1 (qDA _ _ _ c cs w8 HC.o HF.o HWI.o H64.o (HK.o.keep HB.o))).mono ?_; rintro e w9 ⟨rfl, hB⟩; replace HB := bT HB hB; replace HC := hZ (HC.o.below hB); replace HX := hZ (HX.o.below hB); replace MA := hZ (MA.o.below hB); replace HWI := hZ (HWI.o.below hB); clear hB
        go_wp2_with fail
        refine (qOc w9 _ _ K cs MA.o HWI.o (qI9 HBA.o) H64.o).mono ?_; rintro e w10 ⟨hB, tt, rfl, htt⟩; have hth : qBO c cs = tt := by
         have h8 := HBA.o.in_ HF.o.good.some_ (by rw [HNI.o]; omega) (w := cs) (by rw [HNI.o]; exact HCS.o.1); have h9 : qBO c cs = true ↔ InB K cs := qDX.trans ⟨fun h => h8.2 h.2, fun h => ⟨by rw [HNI.o]; exact HCS.o.1, h8.1 h⟩⟩; rw [Bool.eq_iff_iff]; exact h9.trans htt.symm
        rw [hth]; replace HB := bT HB hB; replace HC := hZ (HC.o.below hB); replace HX := hZ (HX.o.below hB); replace MA := hZ (MA.o.below hB); clear hB hth htt HWI HCS; have q2 : (tt != tt) = false := by simp
        go_wp2_with fail
        clear q2; go_roundw
        case rel => exact ⟨j + 1, by omega, by go_num, HC, HX, MA, HB⟩
        case measure => simp [intOf]; omega
     ·have q1 : decide ((j : Int) < (t : Int)) = false := decide_eq_false (by omega)
      go_wp2_with fail
      refine (qDW wl (HK.o.keep HB.o) (HP.o.below HB.o HP.o.lt)).mono ?_; rintro e w9 ⟨rfl, hB⟩; replace HB := bT HB hB; clear hB
      go_wp2_with fail
      exact bodyPost_ret (v := .bool true) (by simp [results, Tryz.results3, go_sem]) rfl ⟨rfl, HB.o⟩
end Go.Proofs.YtkjhlkngihponaaGreatDoor
