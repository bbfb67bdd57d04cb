/- the law LawsFewer: its walk. -/
import Derived.Test.YtkjhlkngihponaaGreatDoorQCYLaw
import Derived.Test.YtkjhlkngihponaaGreatDoorQCLYMat
import Derived.Test.YtkjhlkngihponaaGreatDoorQCLRow
import Derived.Deep.CutRange
set_option linter.unusedVariables false
set_option linter.unusedSimpArgs false
set_option maxHeartbeats 8000000
set_option maxRecDepth 100000
namespace Go.Proofs.YtkjhlkngihponaaGreatDoor
open Go.RowKit
theorem qGv (v1 : Value) (zs1 : List Int) (n1 : Nat) (bal : Bool) (w : World) (h1 : qCy w v1 zs1 n1) (hK : qAS w) (hP : qCz w) :
 Calls Tryz.prog 4 #[v1, .bool bal] w fun e w' => e = .returned (.bool true) /\ Below w.heap.size w w' := by
 have HK := hZ hK; have HP := hZ hP; have HB := hZ (Below.refl w.heap.size w); have hcat := qFr v1 zs1 n1 bal w h1; have hp1 := qGl zs1 n1; obtain ⟨c, hcc⟩ := eX (qBm (qOL zs1 n1) bal); have hf := qFa (bal := bal) hp1; have hsm := qHB (bal := bal) hp1; have hn5 := qFY (bal := bal) hp1; rw [hcc] at hcat hf hsm hn5; have HF := hZ hf; have HS := hZ hsm; have HCAT := hZ hcat; clear h1 hK hP hcat hp1 hcc hf hsm
 go_enter Tryz.func4, Tryz.ntmps4
 go_wp2_with fail
 refine HCAT.o.mono ?_; clear HCAT; rintro e w1 ⟨⟨vi, vr, rfl, hc⟩, hB⟩; have HC := hZ hc; obtain ⟨ai, ci, rfl, hi1, hi2⟩ := hc.items.form; obtain ⟨ar, cr, rfl, hr1, hr2⟩ := hc.rules.form; replace HB := bT HB hB
 try replace HC := hZ (HC.o.below hB)
 try replace HX := hZ (HX.o.below hB)
 try replace HY := hZ (HY.o.below hB)
 try replace MA := hZ (MA.o.below hB)
 try replace MB := hZ (MB.o.below hB)
 try replace HD := hZ (HD.o.below hB)
 clear hB; clear hc; unfold qCB; obtain ⟨nr, hnr⟩ := eX c.rules.length; have HNR := hZ hnr; obtain ⟨ni, hni⟩ := eX c.items.length; have HNI := hZ hni; rw [hnr] at hr1 HC ⊢; rw [hni] at hi1 HC hn5 ⊢; clear hnr hni
 go_upto_if 19 with fail
 obtain ⟨w2, hw2⟩ := eX (w1.alloc (.cells #[.slice ai ni ci, .slice ar nr cr, .slice none 0 0, .slice none 0 0] 28)); obtain ⟨w3, hw3⟩ := eX (w2.alloc (.cells #[.slice ai ni ci, .slice ar nr cr, .slice none 0 0, .slice none 0 0] 28)); obtain ⟨bc, hbc⟩ := eX w1.heap.size; obtain ⟨bd, hbd⟩ := eX (bc + 1); have hB2 : Below w1.heap.size w1 w2 := by rw [<- hw2]; exact aR
 have hz2 : w2.heap.size = bd := by rw [<- hw2, <- hbd, <- hbc]; simp
 have hB3 : Below w2.heap.size w2 w3 := by rw [<- hw3]; exact aR
 have HX : Hid (qBA w3 bc (.slice ai ni ci) (.slice ar nr cr)) := hZ ((hw2 ▸ hbc ▸ qBA.new w1 _ _ : qBA w2 bc (.slice ai ni ci) (.slice ar nr cr)).below hB3); have hfz : qAm w3 bd 28 [.slice ai ni ci, .slice ar nr cr, .slice none 0 0, .slice none 0 0] := by rw [<- hw3, <- hz2]; exact qAm.new _ _ _
 have HY3 : Hid (qBA w3 bd (.slice ai ni ci) (.slice ar nr cr)) := hZ (by rw [<- hw3, <- hz2]; exact qBA.new _ _ _); have HFZ := hZ hfz; rw [hw2, hw3, hbc, hbd]; have hbcd : bc < bd := by omega
 have hwbd : w.heap.size <= bc := by rw [<- hbc]; exact HB.o.size
 have HB13 : Hid (Below w1.heap.size w1 w3) := hZ (hB2.trans (hB3.mono (by have := hB2.size; omega))); have HBC := hZ hbc; have HC3 := hZ (HC.o.below HB13.o); replace HB := hZ ((HB.o.trans (hB2.mono (by omega))).trans (hB3.mono (by omega))); clear hw2 hw3 hbc hbd hB2 hB3 hz2 hfz
 go_cut [] from 12 (fun wc => Hid (qBA wc bc (.slice ai ni ci) (.slice ar nr cr)) /\ Hid (qBA wc bd (.slice ai ni ci) (.slice ar (nr - 1) cr)) /\ Hid (qA6 wc (.slice ai ni ci) (.slice ar nr cr) c) /\ Hid (Below w.heap.size w wc))
 case first =>
  by_cases h0 : 0 < nr
  ·have q1 : decide (0 < nr) = true := decide_eq_true h0
   rw [q1]; have hsub : (nr : Int) - 1 = ((nr - 1 : Nat) : Int) := by omega
   have i1 : (0 : Int) <= ((nr - 1 : Nat) : Int) := by omega
   have i2 : ((nr - 1 : Nat) : Int) <= (cr : Int) := by omega
   have x1 := HX.o.c1; have y1 := HY3.o.c1; have yf := HFZ.o.frozen 1; obtain ⟨w4, hw4⟩ := eX (w3.setCell ⟨bd, 1, none⟩ (.slice ar (nr - 1) cr)); have ho : qAb (fun b => b = bd) w3 w4 := by rw [<- hw4]; exact (qAb.refl (fun b => b = bd) w3).set (p := ⟨bd, 1, none⟩) rfl _
   have hx := HX.o; have HX4 : Hid (qBA w4 bc (.slice ai ni ci) (.slice ar nr cr)) := hZ ⟨Nat.lt_of_lt_of_le hx.lt ho.size, (ho.cell (p := ⟨bc, 0, none⟩) (by show ¬ bc = bd; omega) hx.lt).trans hx.c0, (ho.cell (p := ⟨bc, 1, none⟩) (by show ¬ bc = bd; omega) hx.lt).trans hx.c1, (ho.cell (p := ⟨bc, 2, none⟩) (by show ¬ bc = bd; omega) hx.lt).trans hx.c2, (ho.cell (p := ⟨bc, 3, none⟩) (by show ¬ bc = bd; omega) hx.lt).trans hx.c3⟩; have hset := HFZ.o.set 1 (.slice ar (nr - 1) cr); rw [hw4] at hset; have HY4 : Hid (qBA w4 bd (.slice ai ni ci) (.slice ar (nr - 1) cr)) := hZ ⟨hset.lt, hset.cell 0, hset.cell 1, hset.cell 2, hset.cell 3⟩; have HB4 : Hid (Below w.heap.size w w4) := hZ (ho.below HB.o HB.o.size (fun b hb => by omega)); have HC4 : Hid (qA6 w4 (.slice ai ni ci) (.slice ar nr cr) c) := hZ (HC.o.below (ho.below HB13.o HB13.o.size (fun b hb => by have := HBC.o; omega))); clear hx hset ho h0
   go_wp2_with fail
   try rw [hw4]
   clear hw4
   go_meet
   case rel => exact ⟨HX4, HY4, HC4, HB4⟩
  ·have q1 : decide (0 < nr) = false := decide_eq_false h0
   have e0 : nr - 1 = nr := by omega
   rw [q1]
   go_wp2_with fail
   go_meet
   case rel => exact ⟨HX, by rw [e0]; exact HY3, HC3, HB⟩
 case rest =>
  clear HX HY3 HFZ HC HC3 HB HB13 HBC; obtain ⟨w4, rfl⟩ := eY wc; obtain ⟨HX, HY, HC, HB⟩ := hcut; have x0 := HX.o.c0; have x1 := HX.o.c1; have x2 := HX.o.c2; have x3 := HX.o.c3; have xl := HX.o.lt
  go_wp2_with fail
  have HD : Hid (qA6 w4 (.slice ai ni ci) (.slice ar (nr - 1) cr) (qMP c)) := hZ (by
   have h9 := HC.o; rw [<- HNR.o] at h9 ⊢; exact qPn h9)
  refine (qCe _ _ c w4 HC.o HF.o (by rw [HNI.o]; exact hn5) HS.o (HK.o.keep HB.o)).mono ?_; rintro e w5 ⟨⟨ua, KA, rfl, hma, hba⟩, hB⟩; obtain ⟨aa, ca, rfl, hca1, hca2⟩ := hma.form; have MA := hZ hma; have HBA := hZ hba; obtain ⟨na, hna⟩ := eX KA.length; have HNA := hZ hna; rw [hna] at MA hca1 ⊢; replace HB := bT HB hB; replace HC := hZ (HC.o.below hB); replace HD := hZ (HD.o.below hB); replace HX := hZ (HX.o.below hB); replace HY := hZ (HY.o.below hB); clear hB hma hba hna x0 x1 x2 x3 xl; have y0 := HY.o.c0; have y1 := HY.o.c1; have y2 := HY.o.c2; have y3 := HY.o.c3; have yl := HY.o.lt
  go_wp2_with fail
  refine (qCe _ _ (qMP c) w5 HD.o (qHO HF.o) (by show c.items.length <= 5; rw [HNI.o]; exact hn5) (qPm HS.o) (HK.o.keep HB.o)).mono ?_; rintro e w6 ⟨⟨ub, KB, rfl, hmb, hbb⟩, hB⟩; obtain ⟨ab, cb, rfl, hcb1, hcb2⟩ := hmb.form; have MB := hZ hmb; have HBB : Hid (qCu c.items.length (qC5 (qMP c)) KB) := hZ hbb; obtain ⟨nb, hnb⟩ := eX KB.length; have HNB := hZ hnb; have hfew := HBA.o.fewer HBB.o HF.o.good.some_ (by have := HNI.o; omega) qJR; rw [HNA.o, hnb] at hfew; have HIN := hZ hfew.2; have hle := hfew.1; rw [hnb] at MB hcb1 ⊢; replace HB := bT HB hB
  try replace HC := hZ (HC.o.below hB)
  try replace HX := hZ (HX.o.below hB)
  try replace HY := hZ (HY.o.below hB)
  try replace MA := hZ (MA.o.below hB)
  try replace MB := hZ (MB.o.below hB)
  try replace HD := hZ (HD.o.below hB)
  clear hB; clear hmb hbb hnb hfew y0 y1 y2 y3 yl; have q8 : decide ((nb : Int) < (na : Int)) = false := decide_eq_false (by omega); have q9 : decide (nb < na) = false := decide_eq_false (by omega); clear hle
  go_wp2_with fail
  clear q8 q9
  go_loopw [11] (fun iv wr => ∃ i : Nat, i <= na /\ iv = .int .i64 i /\ Hid (qA6 wr (.slice ai ni ci) (.slice ar nr cr) c /\ qA6 wr (.slice ai ni ci) (.slice ar (nr - 1) cr) (qMP c)) /\ Hid (qBA wr bc (.slice ai ni ci) (.slice ar nr cr) /\ qBA wr bd (.slice ai ni ci) (.slice ar (nr - 1) cr)) /\ Hid (qAR wr (.slice aa na ca) KA /\ qAR wr (.slice ab nb cb) KB) /\ Hid (Below w.heap.size w wr)) (fun iv _ => na - (intOf iv).toNat)
  case atStart => exact ⟨0, by omega, rfl, hZ ⟨HC.o, HD.o⟩, hZ ⟨HX.o, HY.o⟩, hZ ⟨MA.o, MB.o⟩, HB⟩
  case round =>
   clear HC HD HX HY MA MB HB; obtain ⟨i, hi, rfl, HCD, HXY, HMM, HB⟩ := hrel; obtain ⟨wl, rfl⟩ := eY wr; by_cases hlt : i < na
   ·have HC := hZ HCD.o.1
    have HD := hZ HCD.o.2; have HX := hZ HXY.o.1; have HY := hZ HXY.o.2; have MA := hZ HMM.o.1; have MB := hZ HMM.o.2; clear HCD HXY HMM; have i1 : (0 : Int) <= (i : Int) := by omega
    have i2 : (i : Int) < (na : Int) := by omega
    have hik : i < KA.length := by have := HNA.o; omega
    obtain ⟨ba, cpa, ar2, cr2, hva, hba, hca, hri, -, -⟩ := MA.o.at_ i hik; injection hva with e1 e2 e3; subst e1; clear e2 e3; have hmem : KA[i] ∈ KA := List.getElem_mem hik; have HH1 := hZ (qMI HF.o.good HBA.o hmem); have HH3 := hZ (HIN.o _ hmem); have HR64 := hZ (qI9 HBA.o _ hmem); have HHL := hZ (HBA.o.row _ hmem); obtain ⟨r, hr⟩ := eX (KA[i]); rw [hr] at hca hri HH1 HH3 HR64 HHL; obtain ⟨nr2, hn2⟩ := eX r.length; rw [hn2] at hca hri; have HR := hZ hri; have HA2 := hZ hca; have e1 := HX.o.c0; have e2 := HX.o.c1; have e3 := HX.o.c2; have e4 := HX.o.c3; have e5 := HY.o.c0; have e6 := HY.o.c1; have e7 := HY.o.c2; have e8 := HY.o.c3; clear hr hri hmem hn2
    go_wp2_with fail
    refine qEe 99 (fun X => X.cell? ⟨bc, 0, none⟩ = some (.slice ai ni ci) /\ X.cell? ⟨bc, 1, none⟩ = some (.slice ar nr cr) /\ X.cell? ⟨bc, 2, none⟩ = some (.slice none 0 0) /\ X.cell? ⟨bc, 3, none⟩ = some (.slice none 0 0) /\ X.cell? ⟨bd, 0, none⟩ = some (.slice ai ni ci) /\ X.cell? ⟨bd, 1, none⟩ = some (.slice ar (nr - 1) cr) /\ X.cell? ⟨bd, 2, none⟩ = some (.slice none 0 0) /\ X.cell? ⟨bd, 3, none⟩ = some (.slice none 0 0) /\ X.cell? ⟨ba, i, none⟩ = some (.slice ar2 nr2 cr2)) (by kernel_rfl) (⟨e1, e2, e3, e4, e5, e6, e7, e8, hca⟩) (fun hHeld => ?_); clear e1 e2 e3 e4 e5 e6 e7 e8 hca; have hdr : Below wl.heap.size wl wl.drew := (Below.refl _ _).drew; refine kU 0 57 ?_; refine kU 1 58 ?_; refine kU 2 59 ?_; refine kU 3 60 ?_; refine kU 4 61 ?_; have hh1 := callsIn_wide.1 (qDA _ _ _ c r wl.drew (HC.o.below hdr) HF.o (HR.o.below hdr) HR64.o (HK.o.keep (HB.o.trans (hdr.mono HB.o.size)))); rw [HH1.o] at hh1; refine qBV 5 (by kernel_rfl) rfl (fun K hK => ?_); go_simp; refine hh1.mono ?_; clear hh1; rintro e w7 ⟨rfl, hB⟩; replace hB : Below wl.heap.size wl w7 := hdr.trans hB; replace HA2 := hZ ((hB.cell (p := ⟨ba, i, none⟩) (World.block_lt_of_cell? wl _ HA2.o)).trans HA2.o); replace HR := hZ (HR.o.below hB); replace HB := bT HB hB
    try replace HC := hZ (HC.o.below hB)
    try replace HX := hZ (HX.o.below hB)
    try replace HY := hZ (HY.o.below hB)
    try replace MA := hZ (MA.o.below hB)
    try replace MB := hZ (MB.o.below hB)
    try replace HD := hZ (HD.o.below hB)
    clear hB; clear hHeld; have HHS : Hid (w7.cell? ⟨bc, 0, none⟩ = some (.slice ai ni ci) /\ w7.cell? ⟨bc, 1, none⟩ = some (.slice ar nr cr) /\ w7.cell? ⟨bc, 2, none⟩ = some (.slice none 0 0) /\ w7.cell? ⟨bc, 3, none⟩ = some (.slice none 0 0) /\ w7.cell? ⟨bd, 0, none⟩ = some (.slice ai ni ci) /\ w7.cell? ⟨bd, 1, none⟩ = some (.slice ar (nr - 1) cr) /\ w7.cell? ⟨bd, 2, none⟩ = some (.slice none 0 0) /\ w7.cell? ⟨bd, 3, none⟩ = some (.slice none 0 0) /\ w7.cell? ⟨ba, i, none⟩ = some (.slice ar2 nr2 cr2)) := hZ ⟨HX.o.c0, HX.o.c1, HX.o.c2, HX.o.c3, HY.o.c0, HY.o.c1, HY.o.c2, HY.o.c3, HA2.o⟩
    go_wp2_with fail
    refine hK.out _ _ (HHS.o) (fun hHeld => ?_); clear hK K
    try simp only [Act.put, sX1, sX2, sX3]
    clear HHS; refine kU 6 63 ?_; refine kU 7 64 ?_; refine kU 8 65 ?_; refine kU 9 66 ?_; refine kU 10 67 ?_; refine kU 11 68 ?_; refine kU 12 69 ?_; have hh2 := callsIn_wide.1 (qDA _ _ _ (qMP c) r w7 HD.o (qHO HF.o) HR.o HR64.o (HK.o.keep HB.o)); rw [qKJ HH1.o] at hh2; refine qBV 13 (by kernel_rfl) rfl (fun K hK => ?_); go_simp; refine hh2.mono ?_; clear hh2; rintro e w8 ⟨rfl, hB⟩; replace hB : Below w7.heap.size w7 w8 := hB; replace HA2 := hZ ((hB.cell (p := ⟨ba, i, none⟩) (World.block_lt_of_cell? w7 _ HA2.o)).trans HA2.o); replace HR := hZ (HR.o.below hB); replace HB := bT HB hB
    try replace HC := hZ (HC.o.below hB)
    try replace HX := hZ (HX.o.below hB)
    try replace HY := hZ (HY.o.below hB)
    try replace MA := hZ (MA.o.below hB)
    try replace MB := hZ (MB.o.below hB)
    try replace HD := hZ (HD.o.below hB)
    clear hB; clear hHeld; have HHS : Hid (w8.cell? ⟨bc, 0, none⟩ = some (.slice ai ni ci) /\ w8.cell? ⟨bc, 1, none⟩ = some (.slice ar nr cr) /\ w8.cell? ⟨bc, 2, none⟩ = some (.slice none 0 0) /\ w8.cell? ⟨bc, 3, none⟩ = some (.slice none 0 0) /\ w8.cell? ⟨bd, 0, none⟩ = some (.slice ai ni ci) /\ w8.cell? ⟨bd, 1, none⟩ = some (.slice ar (nr - 1) cr) /\ w8.cell? ⟨bd, 2, none⟩ = some (.slice none 0 0) /\ w8.cell? ⟨bd, 3, none⟩ = some (.slice none 0 0) /\ w8.cell? ⟨ba, i, none⟩ = some (.slice ar2 nr2 cr2)) := hZ ⟨HX.o.c0, HX.o.c1, HX.o.c2, HX.o.c3, HY.o.c0, HY.o.c1, HY.o.c2, HY.o.c3, HA2.o⟩
    go_wp2_with fail
    refine hK.out _ _ (HHS.o) (fun hHeld => ?_); clear hK K
    try simp only [Act.put, sX1, sX2, sX3]
    clear HHS; refine kU 14 71 ?_; refine kU 15 72 ?_; refine kU 16 73 ?_; refine kU 17 74 ?_; refine kU 18 75 ?_; refine kU 19 76 ?_; refine kU 20 77 ?_; refine kU 21 78 ?_; have hh3 := qOc w8 _ _ KB r MB.o HR.o (qI9 HBB.o) HR64.o; refine qBV 22 (by kernel_rfl) rfl (fun K hK => ?_); go_simp; refine hh3.mono ?_; clear hh3; rintro e w9 ⟨hB, tt, rfl, htt⟩; obtain rfl : tt = true := htt.2 HH3.o; clear htt; replace HA2 := hZ ((hB.cell (p := ⟨ba, i, none⟩) (World.block_lt_of_cell? w8 _ HA2.o)).trans HA2.o); replace HB := bT HB hB
    try replace HC := hZ (HC.o.below hB)
    try replace HX := hZ (HX.o.below hB)
    try replace HY := hZ (HY.o.below hB)
    try replace MA := hZ (MA.o.below hB)
    try replace MB := hZ (MB.o.below hB)
    try replace HD := hZ (HD.o.below hB)
    clear hB; clear hHeld; have HHS : Hid (w9.cell? ⟨bc, 0, none⟩ = some (.slice ai ni ci) /\ w9.cell? ⟨bc, 1, none⟩ = some (.slice ar nr cr) /\ w9.cell? ⟨bc, 2, none⟩ = some (.slice none 0 0) /\ w9.cell? ⟨bc, 3, none⟩ = some (.slice none 0 0) /\ w9.cell? ⟨bd, 0, none⟩ = some (.slice ai ni ci) /\ w9.cell? ⟨bd, 1, none⟩ = some (.slice ar (nr - 1) cr) /\ w9.cell? ⟨bd, 2, none⟩ = some (.slice none 0 0) /\ w9.cell? ⟨bd, 3, none⟩ = some (.slice none 0 0) /\ w9.cell? ⟨ba, i, none⟩ = some (.slice ar2 nr2 cr2)) := hZ ⟨HX.o.c0, HX.o.c1, HX.o.c2, HX.o.c3, HY.o.c0, HY.o.c1, HY.o.c2, HY.o.c3, HA2.o⟩
    go_wp2_with fail
    refine hK.out _ _ (HHS.o) (fun hHeld => ?_); clear hK K
    try simp only [Act.put, sX1, sX2, sX3]
    clear HHS; refine kU 23 80 ?_; refine kU 24 81 ?_; refine qQc (by kernel_rfl) ?_ _; clear hHeld
    go_wp2_with fail
    go_roundw
    case rel => exact ⟨i + 1, by omega, by go_num, hZ ⟨HC.o, HD.o⟩, hZ ⟨HX.o, HY.o⟩, hZ ⟨MA.o, MB.o⟩, HB⟩
    case measure => simp [intOf]; omega
   ·have i2 : ¬ (i : Int) < (na : Int) := by omega
    go_wp2_with fail
    refine (qDW wl (HK.o.keep HB.o) (HP.o.below HB.o HP.o.lt)).mono ?_; rintro e w9 ⟨rfl, hB⟩; replace HB := bT HB hB; clear hB
    go_wp2_with fail
    exact bodyPost_ret (v := .bool true) (by simp [results, Tryz.results4, go_sem]) rfl ⟨rfl, HB.o⟩
end Go.Proofs.YtkjhlkngihponaaGreatDoor
