/- worldmintlaw06.LatticeIn. -/
import Derived.Test.YtlmbebbdamgfpaaQJR5Minus
import Derived.Test.YtlmbebbdamgfpaaQJLSmP
import Derived.Deep.Cut
set_option linter.unusedVariables false
set_option linter.unusedSimpArgs false
set_option maxHeartbeats 8000000
set_option maxRecDepth 100000
namespace Go.Proofs.Ytlmbebbdamgfpaa
open Go.RowKit
def qJx (l : List Int) : Prop := ∀ x ∈ l, -9223372036854775808 <= x /\ x <= 9223372036854775807
def qLK (m : List (List Int)) : Prop := ∀ r ∈ m, qJx r
def qBA (w : World) (b : Nat) : Prop := b < w.heap.size /\ ∀ j, j < 3 -> ∃ a c M, w.cell? ⟨b, j, none⟩ = some (.slice a M.length c) /\ qAD w (.slice a M.length c) M /\ M.length <= 64 /\ qLK M
def qCr (w : World) (b : Nat) : Prop := b < w.heap.size /\ ∀ j, j < 4 -> ∃ a c L, w.cell? ⟨b, j, none⟩ = some (.slice a L.length c) /\ qAm w (.slice a L.length c) L /\ L.length <= 128 /\ qJx L
theorem qBA.blw {w w' : World} {b : Nat} (h : qBA w b) (hb : Below w.heap.size w w') : qBA w' b :=
 ⟨Nat.lt_of_lt_of_le h.1 hb.size, fun j hj => by obtain ⟨a, c, M, h1, h2, h3⟩ := h.2 j hj; exact ⟨a, c, M, (hb.cell (p := ⟨b, j, none⟩) h.1).trans h1, h2.below hb, h3⟩⟩
instance {w w' : World} {b : Nat} : Mv w w' (qBA w b) (qBA w' b) := ⟨fun hb h => qBA.blw h hb⟩
theorem qCr.blw {w w' : World} {b : Nat} (h : qCr w b) (hb : Below w.heap.size w w') : qCr w' b :=
 ⟨Nat.lt_of_lt_of_le h.1 hb.size, fun j hj => by obtain ⟨a, c, M, h1, h2, h3⟩ := h.2 j hj; exact ⟨a, c, M, (hb.cell (p := ⟨b, j, none⟩) h.1).trans h1, h2.below hb, h3⟩⟩
instance {w w' : World} {b : Nat} : Mv w w' (qCr w b) (qCr w' b) := ⟨fun hb h => qCr.blw h hb⟩
theorem qBA.mk {w : World} {x y z : Value} {A B C : List (List Int)} (h1 : qAD w x A) (h2 : qAD w y B) (h3 : qAD w z C) (l1 : A.length <= 64 /\ qLK A) (l2 : B.length <= 64 /\ qLK B) (l3 : C.length <= 64 /\ qLK C) : qBA (w.alloc (.cells #[x, y, z] 23)) w.heap.size := by
 have hb : Below w.heap.size w (w.alloc (.cells #[x, y, z] 23)) := (Below.refl _ _).alloc (Nat.le_refl _) _; obtain ⟨a1, c1, rfl, -, -⟩ := h1.form; obtain ⟨a2, c2, rfl, -, -⟩ := h2.form; obtain ⟨a3, c3, rfl, -, -⟩ := h3.form; refine ⟨by simp, fun j hj => ?_⟩; rcases (show j = 0 \/ j = 1 \/ j = 2 by omega) with rfl | rfl | rfl
 ·exact ⟨a1, c1, A, by rw [cell_of_row _ w.heap.size 0 _ 23 (0, 0) (heap_alloc_new w _)]; rfl, h1.below hb, l1⟩
 ·exact ⟨a2, c2, B, by rw [cell_of_row _ w.heap.size 1 _ 23 (0, 0) (heap_alloc_new w _)]; rfl, h2.below hb, l2⟩
 ·exact ⟨a3, c3, C, by rw [cell_of_row _ w.heap.size 2 _ 23 (0, 0) (heap_alloc_new w _)]; rfl, h3.below hb, l3⟩
theorem qCr.mk {w : World} {x y z u : Value} {A B C D : List Int} (h1 : qAm w x A) (h2 : qAm w y B) (h3 : qAm w z C) (h4 : qAm w u D) (l1 : A.length <= 128 /\ qJx A) (l2 : B.length <= 128 /\ qJx B) (l3 : C.length <= 128 /\ qJx C) (l4 : D.length <= 128 /\ qJx D) : qCr (w.alloc (.cells #[x, y, z, u] 22)) w.heap.size := by
 have hb : Below w.heap.size w (w.alloc (.cells #[x, y, z, u] 22)) := (Below.refl _ _).alloc (Nat.le_refl _) _; obtain ⟨a1, c1, rfl, -, -⟩ := h1.form; obtain ⟨a2, c2, rfl, -, -⟩ := h2.form; obtain ⟨a3, c3, rfl, -, -⟩ := h3.form; obtain ⟨a4, c4, rfl, -, -⟩ := h4.form; refine ⟨by simp, fun j hj => ?_⟩; rcases (show j = 0 \/ j = 1 \/ j = 2 \/ j = 3 by omega) with rfl | rfl | rfl | rfl
 ·exact ⟨a1, c1, A, by rw [cell_of_row _ w.heap.size 0 _ 22 (0, 0) (heap_alloc_new w _)]; rfl, h1.below hb, l1⟩
 ·exact ⟨a2, c2, B, by rw [cell_of_row _ w.heap.size 1 _ 22 (0, 0) (heap_alloc_new w _)]; rfl, h2.below hb, l2⟩
 ·exact ⟨a3, c3, C, by rw [cell_of_row _ w.heap.size 2 _ 22 (0, 0) (heap_alloc_new w _)]; rfl, h3.below hb, l3⟩
 ·exact ⟨a4, c4, D, by rw [cell_of_row _ w.heap.size 3 _ 22 (0, 0) (heap_alloc_new w _)]; rfl, h4.below hb, l4⟩
theorem qDv.fit {m H : List (List Int)} {z : Int} (h : qDv m z H) : (∀ r ∈ H, r.length = qAM m) /\ qLK H := by
 rcases h with ⟨_, _, rfl⟩ | ⟨_, H', ⟨_, h1⟩, ⟨_, _, rfl⟩ | ⟨h2, _, rfl⟩⟩
 ·exact ⟨fun r h => by simp at h, fun r h => by simp at h⟩
 ·exact ⟨fun r h => by simp at h, fun r h => by simp at h⟩
 ·exact ⟨h1, fun r hr x hx => h2 r hr x hx⟩
theorem qCG.val2 {w0 w' : World} {m : List (List Int)} {e : Ending} (h : qCG w0 m e w') : Below w0.heap.size w0 w' /\ ∃ u z H, e = .returned (.tuple #[u, .int .i64 z]) /\ qAD w' u H /\ (∀ r ∈ H, r.length = qAM m) /\ qLK H /\ H.length <= m.length := by
 obtain ⟨hB, ⟨h1, rfl⟩ | ⟨h1, H, k1, k2, k4, k3⟩⟩ := h
 ·exact ⟨hB, _, _, [], rfl, qAh.nil _ 0 (by omega), fun r h => by simp at h, fun r h => by simp at h, by simp⟩
 ·rcases k3 with ⟨rfl, -⟩ | ⟨u, rfl, h2, h3⟩
  ·exact ⟨hB, _, _, [], rfl, qAh.nil _ 0 (by omega), fun r h => by simp at h, fun r h => by simp at h, by simp⟩
  ·exact ⟨hB, u, _, H, rfl, h2, k2, fun r hr x hx => h3 r hr x hx, k4⟩
theorem qE5 (vl : Value) (zl : List Int) (nl : Nat) (vm : Value) (zm : List Int) (nm : Nat) (at_ k : Int) (w0 : World) (hl : qCB w0 vl zl nl) (hm : qCB w0 vm zm nm) (ha1 : -9223372036854775808 <= at_) (ha2 : at_ <= 9223372036854775807) (hk1 : -9223372036854775808 <= k) (hk2 : k <= 9223372036854775807) :
 Calls Try.prog 8 #[vl, vm, .int .i64 at_, .int .i64 k] w0 fun e w' => e = .returned (.bool true) /\ Below w0.heap.size w0 w' := by
 have HB := hZ (Below.refl w0.heap.size w0); have HL := hZ hl; have HVm := hZ hm; clear hl hm
 go_enter Try.func8, Try.ntmps8
 go_wp2_with fail
 refine (qIc vl zl nl 1000 w0 HL.o (by omega) (by omega)).mono ?_; rintro e w1 ⟨m, u, rfl, hu, hS, hB⟩; have HM := hZ hu; have S := hZ hS; replace HB := bT HB hB; clear hu hS hB HL; obtain ⟨am, cm, rfl, q1, q2⟩ := HM.o.form; have HRows := hZ S.o.rows; obtain ⟨n, hcn⟩ := eX (qAM m); have Hn := hZ hcn; have HLn : Hid ((∀ r ∈ m, r.length = n) /\ n <= 5) := hZ (by
  obtain ⟨c, h5, hc⟩ := S.o.cols; rw [<- hcn]; refine ⟨qJj hc, ?_⟩; rcases Nat.eq_zero_or_pos m.length with h0 | h0
  ·rw [List.eq_nil_of_length_eq_zero h0]; exact Nat.zero_le _
  ·rw [qGZ hc h0]; exact h5)
 have HFm : Hid (qLK m) := hZ (fun r hr x hx => by have := S.o.ent r hr x hx; omega); have hn5 := HLn.o.2; clear hcn
 go_wp2_with fail
 refine (qFK w1 _ m HM.o (by have := HRows.o; omega)).mono ?_; rintro e w2 h9; obtain ⟨hB, u1, z1, H, rfl, h1, h2, h3, h4⟩ := h9.val2; have MH' := hZ h1; have HHl : Hid ((∀ r ∈ H, r.length = n) /\ H.length <= 5) := hZ ⟨fun r hr => by rw [h2 r hr, Hn.o], Nat.le_trans h4 HRows.o⟩; have HHf := hZ h3; clear h1 h2 h3 h4 h9; replace HM := HM.b hB; replace HB := bT HB hB; clear hB; have MH := MH'; clear MH'; obtain ⟨ah, ch, rfl, -, -⟩ := MH.o.form
 go_upto_if 28 with fail
 go_cut [12] from 26 (fun s12 wc => s12 = .int .i64 n /\ w2 = wc)
 ·skip
  by_cases h0 : 0 < m.length
  ·skip
   have z1 : (0 : Int) < (m.length : Int) := by omega
   obtain ⟨b0, cap0, a0, c0, hv0, hb0, n0, -, -, -⟩ := HM.o.at_ 0 h0; injection hv0 with f1 f2 f3; subst f1; clear f2 f3; have Hr0 : Hid ((m[0]'h0).length = n) := hZ (HLn.o.1 _ (List.getElem_mem _)); rw [Hr0.o] at n0
   go_wp2_with fail
   go_meet
   case rel => exact ⟨by trivial, by trivial⟩
  ·skip
   have z1 : ¬ (0 : Int) < (m.length : Int) := by omega
   have hn0 : n = 0 := by rw [<- Hn.o, List.eq_nil_of_length_eq_zero (show m.length = 0 by omega)]; rfl
   have Hn0 := hZ hn0; clear hn0
   go_wp2_with fail
   go_meet
   case rel => exact ⟨by rw [Hn0.o]; trivial, by trivial⟩
 ·skip
  obtain ⟨rfl, rfl⟩ := hcut
  go_wp2_with fail
  refine (qDj vm zm nm H.length w2 (HVm.o.below (Nat.le_refl _) HB.o) (by have := HHl.o.2; omega)).mono ?_; rintro e w3 ⟨hB, uv, lv, rfl, hu, hlv, -⟩; have HU' := hZ hu; have HLv := hZ hlv; clear hu hlv; replace HM := HM.b hB; replace MH := MH.b hB; replace HB := bT HB hB; clear hB; have HU := HU'; clear HU'
  go_wp2_with fail
  refine (qGz w3 _ _ lv H MH.o HU.o HLv.o (fun r hr => by have := HHl.o.1 r hr; exact qJj HHl.o.1 r hr) (by have := HHl.o.2; omega) (by rcases Nat.eq_zero_or_pos H.length with h0 | h0; rw [List.eq_nil_of_length_eq_zero h0]; exact Nat.zero_le _; rw [qGZ HHl.o.1 h0]; omega)).mono ?_; rintro e w4 ⟨hB, ut, rfl, hu⟩; have HT' := hZ hu; have HTf : Hid (qJx (qCY lv H)) := hZ (qHX lv H); have HTl : Hid ((qCY lv H).length = qAM H) := hZ (qDk lv H); obtain ⟨T, hT⟩ := eX (qCY lv H); rw [hT] at HT' HTf HTl; clear hu hT; clear HU; replace HM := HM.b hB; replace MH := MH.b hB; replace HB := bT HB hB; clear hB; have HTm := HT'; clear HT'; obtain ⟨at9, ct9, rfl, -, -⟩ := HTm.o.form
  go_upto_if 41 with fail
  go_cut [13] from 39 (fun s13 wc => ∃ (a : Option Addr) (c : Nat) (L : List Int), s13 = .slice a n c /\ Hid (qAm wc (.slice a n c) L) /\ Hid (L.length = n /\ qJx L) /\ Hid (qAD wc (.slice am m.length cm) m) /\ Hid (qAD wc (.slice ah H.length ch) H) /\ Hid (Below w0.heap.size w0 wc))
  ·skip
   by_cases h0 : H.length = 0
   ·skip
    have z1 : ((H.length : Int) == 0) = true := by rw [beq_iff_eq]; omega
    have H0 := hZ h0; clear h0
    go_wp2_with (at_make; refine qAQ rfl rfl (n) rfl rfl rfl rfl (by omega) ?_)
    intro w5 h_9 hB hlt9; obtain ⟨g, hb⟩ := eX w4.heap.size; rw [hb] at h_9 ⊢; have Oc' := hZ h_9; have hge_g : Hid (w4.heap.size <= g) := hZ (Nat.le_of_eq hb); have hlt_g : Hid (g < w5.heap.size) := hZ (by rw [<- hb]; exact hlt9); clear h_9 hb hlt9; replace HM := HM.b hB; replace MH := MH.b hB; replace HTm := HTm.b hB; replace HB := bT HB hB; clear hB; have Oc := Oc'; clear Oc'
    go_wp2_with fail
    have HZ : Hid (qAm w5 (.slice (some ⟨g, 0, none⟩) n n) (List.replicate n 0)) := hZ (by have h9 := qCo (cap := n) (l := List.replicate n (0 : Int)) (by rw [List.map_replicate]; exact Oc.o) (by rw [List.length_replicate]; exact Nat.le_refl _) (by omega); rwa [List.length_replicate] at h9)
    go_meet
    case rel => exact ⟨_, _, _, by rfl, HZ, hZ ⟨by simp, fun x hx => by obtain rfl := List.eq_of_mem_replicate hx; omega⟩, HM, MH, HB⟩
   ·skip
    have z1 : ((H.length : Int) == 0) = false := by rw [beq_eq_false_iff_ne]; omega
    have HTn : Hid (T.length = n) := hZ (by rw [HTl.o, qGZ HHl.o.1 (by omega)])
    go_wp2_with fail
    go_meet
    case rel => exact ⟨at9, ct9, T, by rw [HTn.o], hZ (by have h9 := HTm.o; rw [HTn.o] at h9; exact h9), hZ ⟨HTn.o, HTf.o⟩, HM, MH, HB⟩
  ·skip
   clear HM MH HB HTm; obtain ⟨av, cv, L, rfl, HV, HVl, HM, MH, HB⟩ := hcut; obtain ⟨w5, rfl⟩ := eY wc; have HN : Hid ((w5.alloc (.cells #[] 3)).ownsRow w5.heap.size 3 1 (.slice (some ⟨w5.heap.size, 0, none⟩) 0 0) 0 []) := hZ (qJQ w5 3 [] (by simp)); obtain ⟨w6, hw8⟩ := eX (w5.alloc (.cells #[] 3)); rw [hw8] at HN; have hB8 : Below w5.heap.size w5 w6 := by rw [<- hw8]; exact (Below.refl _ _).alloc (Nat.le_refl _) _
   have HS := hZ hB8; have HVa := hZ (HV.o.below hB8); have HSz := hZ hB8.size; clear hB8
   go_wp2_with (at_builtin; refine qDM (W0 := w5) (B := w5.heap.size) qFa rfl _ _ rfl (.slice (some ⟨w5.heap.size, 0, none⟩) 0 0) (.slice av n cv) 0 [] L rfl rfl HVa.o HN.o HS.o HSz.o (by have := HVl.o.1; omega) (by omega) ?_)
   intro v3 w7' ho3 hb3 hon3; clear hon3; obtain ⟨w7, rfl⟩ := eY w7'; clear hw8 HN HS HVa HSz; have HO : Hid (w7.ownsRow w5.heap.size 3 1 v3 n (L.map zv)) := hZ (by have h9 := ho3.o; simpa [HVl.o.1] using h9); have HS := hb3; clear hb3 ho3; obtain ⟨a3, c3, rfl, -, -⟩ := qEZ HO.o
   go_upto_if 48 with fail
   go_cut [] from 47 (fun  wc => ∃ (L2 : List Int), Hid (qAm wc (.slice a3 n c3) L2) /\ Hid (L2.length = n /\ qJx L2) /\ Hid (Below w5.heap.size w5 wc))
   ·skip
    by_cases h0 : 0 < n
    ·skip
     have z1 : (0 : Int) < (n : Int) := by omega
     obtain ⟨g, c9, e9, hge, hc9, hc92, tl, hblk⟩ := qJP HO.o (HVl.o.1).symm h0; rw [HVl.o.1] at e9 hc9; injection e9 with e1 e2 e3; subst e1 e3; clear e2; have HBk := hZ hblk; have HGe := hZ hge; clear hblk hge HO; have hra := qBf at_ n (by omega)
     go_wp2_with fail
     refine (qCe at_ n w7 ha1 ha2 (by omega) (by omega)).mono ?_; rintro e w9 ⟨rfl, hw9⟩; subst hw9; obtain ⟨r, hr⟩ := Int.eq_ofNat_of_zero_le (show 0 <= qBk at_ n by omega); rw [hr] at hra ⊢; have hr1 : (r : Int) < (n : Int) := by omega
     have hr0 : (0 : Int) <= (r : Int) := by omega
     have hrL : r < L.length := by have := HVl.o.1; omega
     clear hr hra; have e1 : w7.cell? ⟨g, r, none⟩ = some (.int .i64 (L[r]'hrL)) := by rw [HBk.o.cell, List.getElem?_append_left (by simpa using hrL)]; simp [hrL, zv]
     have e2 := HBk.o.frozen r; obtain ⟨w8, hw⟩ := eX (w7.setCell ⟨g, r, none⟩ (.int .i64 k)); have HBn : Hid (qAy w8 g 3 ((L.set r k).map zv ++ tl)) := hZ (by have h9 := HBk.o.set r (.int .i64 k); rw [hw, qJO L tl r k hrL] at h9; exact h9); have ho : qAb (fun b => b = g) w7 w8 := by rw [<- hw]; exact (qAb.refl (fun b => b = g) _).set (p := ⟨g, r, none⟩) rfl _
     replace HS := hZ (qAn HS.o ho (fun b e => by rw [e]; exact HGe.o) HS.o.size); clear ho HBk
     go_wp2_with fail
     clear hw e1 e2
     go_meet
     case rel => exact ⟨L.set r k, hZ (by have h9 := qFS (cap := c3) HBn.o (by rw [List.length_set]; have := HVl.o.1; omega) hc92; rw [List.length_set, HVl.o.1] at h9; exact h9), hZ ⟨by rw [List.length_set]; exact HVl.o.1, fun x hx => by rcases List.mem_or_eq_of_mem_set hx with h9 | h9; exact HVl.o.2 x h9; rw [h9]; exact ⟨hk1, hk2⟩⟩, HS⟩
    ·skip
     have z1 : ¬ (0 : Int) < (n : Int) := by omega
     have z1 : ¬ (0 : Int) < (n : Int) := by omega
     go_wp2_with fail
     go_meet
     case rel => exact ⟨L, hZ (by have hL := List.eq_nil_of_length_eq_zero (show L.length = 0 by have := HVl.o.1; omega); rw [hL, show n = 0 by omega]; rcases HO.o.2 with ⟨e, _⟩ | ⟨g, cap, _, e, _, _, _, h8, _⟩; injection e with e1 _ e3; subst e1 e3; exact qAh.nil _ 0 (by omega); injection e with e1 _ e3; subst e1 e3; exact qAh.nil _ _ (by unfold maxLen at h8; omega)), HVl, HS⟩
   ·skip
    clear HO HS; obtain ⟨L2, HW, HWl, HS⟩ := hcut; obtain ⟨w8, rfl⟩ := eY wc; replace HM := hZ (HM.o.below HS.o); replace MH := hZ (MH.o.below HS.o); replace HV := hZ (HV.o.below HS.o); replace HB := hZ (HB.o.trans (HS.o.mono HB.o.size)); clear HS
    go_wp2_with fail
    refine (qHZ w8 _ H n at_ k MH.o (by have := HHl.o.2; omega) HHl.o.1 (by omega) ha1 ha2).mono ?_; rintro e w9 ⟨us, rfl, hy, hB⟩; have HSp' : Hid (qAD w9 us (qDB H n at_ k)) := hZ (by obtain ⟨l, hl⟩ := hy; exact hl.mat); clear hy; replace HM := HM.b hB; replace MH := MH.b hB; replace HV := HV.b hB; replace HW := HW.b hB; replace HB := bT HB hB; clear hB; obtain ⟨as9, cs9, rfl, -, -⟩ := HSp'.o.form; rw [qEv] at HSp' ⊢; have HSp := HSp'; clear HSp'; obtain ⟨w10, hw9⟩ := eX (w9.alloc (.cells #[.slice ah H.length ch, .slice am m.length cm, .slice as9 H.length cs9] 23)); have HA' : Hid (qBA w10 w9.heap.size) := hZ (by rw [<- hw9]; exact qBA.mk MH.o HM.o HSp.o ⟨by have := HHl.o.2; omega, HHf.o⟩ ⟨by have := HRows.o; omega, HFm.o⟩ ⟨by rw [qEv]; have := HHl.o.2; omega, fun r hr => qH0 (P := fun x => -9223372036854775808 <= x /\ x <= 9223372036854775807) HHf.o ⟨hk1, hk2⟩ r hr⟩); obtain ⟨b8, hb8⟩ := eX w9.heap.size; rw [hb8] at HA'; have hB : Below w9.heap.size w9 w10 := by rw [<- hw9]; exact (Below.refl _ _).alloc (Nat.le_refl _) _
    clear HM MH HSp; replace HV := HV.b hB; replace HW := HW.b hB; replace HB := bT HB hB; clear hB; have HA := HA'; clear HA'
    go_wp2_with fail
    clear hw9 hb8; refine (qDj vm zm nm n w10 (HVm.o.below (Nat.le_refl _) HB.o) (by omega)).mono ?_; rintro e w11 ⟨hB, uv, l5, rfl, hu, hlv, hev⟩; have HU' := hZ hu; have HL5 : Hid (l5.length = n /\ qJx l5) := hZ ⟨hlv, fun x hx => by have := hev x hx; omega⟩; clear hu hlv hev; replace HV := HV.b hB; replace HW := HW.b hB; replace HA := HA.b hB; replace HB := bT HB hB; clear hB; have HU := HU'; clear HU'; obtain ⟨a5, c5, rfl, -, -⟩ := HU.o.form; rw [HL5.o.1] at HU ⊢; have hw1 : IntKind.i64.wrap ((n : Int) + 1) = ((n + 1 : Nat) : Int) := by rw [IntWalk.i64_in _ (by omega)]; omega
    go_wp2_with fail
    clear hw1; refine (qDj vm zm nm (n + 1) w11 (HVm.o.below (Nat.le_refl _) HB.o) (by omega)).mono ?_; rintro e w12 ⟨hB, uv, l6, rfl, hu, hlv, hev⟩; have HX' := hZ hu; have HL6 : Hid (l6.length = n + 1 /\ qJx l6) := hZ ⟨hlv, fun x hx => by have := hev x hx; omega⟩; clear hu hlv hev; replace HV := HV.b hB; replace HW := HW.b hB; replace HA := HA.b hB; replace HU := HU.b hB; replace HB := bT HB hB; clear hB; have HX := HX'; clear HX'; obtain ⟨a6, c6, rfl, -, -⟩ := HX.o.form; rw [HL6.o.1] at HX ⊢; obtain ⟨w13, hw9⟩ := eX (w12.alloc (.cells #[.slice av n cv, .slice a3 n c3, .slice a5 n c5, .slice a6 (n + 1) c6] 22)); have HC' : Hid (qCr w13 w12.heap.size) := hZ (by rw [<- hw9]; exact qCr.mk HV.o HW.o HU.o HX.o ⟨by rw [HVl.o.1]; omega, HVl.o.2⟩ ⟨by rw [HWl.o.1]; omega, HWl.o.2⟩ ⟨by rw [HL5.o.1]; omega, HL5.o.2⟩ ⟨by rw [HL6.o.1]; omega, HL6.o.2⟩); obtain ⟨b9, hb9⟩ := eX w12.heap.size; rw [hb9] at HC'; have hB : Below w12.heap.size w12 w13 := by rw [<- hw9]; exact (Below.refl _ _).alloc (Nat.le_refl _) _
    clear HV HW HU HX; replace HA := HA.b hB; replace HB := bT HB hB; clear hB; have HC := HC'; clear HC'
    go_wp2_with fail
    clear hw9 hb9
    go_loopw [17] (fun iv wr => ∃ j : Nat, j <= 3 /\ iv = .int .i64 j /\ Hid (qBA wr b8) /\ Hid (qCr wr b9) /\ Hid (Below w0.heap.size w0 wr)) (fun iv _ => 3 - (intOf iv).toNat)
    case atStart => exact ⟨0, by omega, rfl, HA, HC, HB⟩
    case round =>
     clear HA HC HB; obtain ⟨j, hj, rfl, HA, HC, HB⟩ := hrel; obtain ⟨w13, rfl⟩ := eY wr; by_cases hj3 : j < 3
     ·skip
      have j1 : (0 : Int) <= (j : Int) := by omega
      have j2 : (j : Int) < 3 := by omega
      go_wp2_with fail
      go_loopw [18] (fun iv wr => ∃ t : Nat, t <= 4 /\ iv = .int .i64 t /\ Hid (qBA wr b8) /\ Hid (qCr wr b9) /\ Hid (Below w0.heap.size w0 wr)) (fun iv _ => 4 - (intOf iv).toNat)
      case atStart => exact ⟨0, by omega, rfl, HA, HC, HB⟩
      case round =>
       clear HA HC HB; obtain ⟨t, ht, rfl, HA, HC, HB⟩ := hrel; obtain ⟨w13, rfl⟩ := eY wr; by_cases ht4 : t < 4
       ·skip
        have t1 : (0 : Int) <= (t : Int) := by omega
        have t2 : (t : Int) < 4 := by omega
        go_wp2_with fail
        obtain ⟨w14, hwd⟩ := eX w13.drew; have hB := dB hwd; replace HA := HA.b hB; replace HC := HC.b hB; replace HB := bT HB hB; clear hB; have HBr : Hid (qAb (fun b => False) w14 w14) := hZ (qAb.refl _ _); refine qAs [] (fun w' => qAb (fun b => False) w14 w') (by kernel_rfl) (by rw [hwd]; exact qAb.refl _ _) (fun hHeld => ?_); rw [hwd] at hHeld ⊢; clear hwd; obtain ⟨ax, cx, M, e0, hm, hm6, hf⟩ := HA.o.2 j hj3; obtain ⟨ay, cy, V, e1, hv, hv6, hg⟩ := HC.o.2 t ht4; have HMx := hZ hm; have HVx := hZ hv; have HF := hZ (And.intro hm6 (And.intro hf (And.intro hv6 hg))); have m0 := HA.o.1; have m1 := HC.o.1; clear hm hm6 hf hv hv6 hg; refine pU 0 80 ?_; refine pU 1 81 ?_; refine pU 2 82 ?_; refine tU 3 83 (cF e0 m0) ?_; refine pU 4 84 ?_; refine pU 5 85 ?_; refine pU 6 86 ?_; refine tU 7 87 (cF e1 m1) ?_; refine pU 9 89 ?_; refine pU 10 90 ?_; refine pU 11 91 ?_; refine tU 12 92 (cF e0 m0) ?_; refine pU 13 93 ?_; refine pU 14 94 ?_; refine pU 15 95 ?_; refine tU 16 96 (cF e1 m1) ?_; clear e0 e1 m0 m1; refine eU 8 fun K hK => ?_; go_simp; refine (qI4 w14 _ _ M V HMx.o HVx.o HF.o.2.1 HF.o.2.2.2).mono ?_; rintro e w15 ⟨hB, x1, rfl, hb⟩; have Tx1 := hZ hb; replace HBr := oT HBr hB; clear hb; replace HA := HA.b hB; replace HC := HC.b hB; replace HMx := HMx.b hB; replace HVx := HVx.b hB; replace HB := bT HB hB; clear hB; refine hK.out _ _ HBr.o (fun hHeld => ?_); clear hK K
        try simp only [Act.put, sX1, sX2, sX3]
        refine eU 17 fun K hK => ?_; go_simp; refine (qK4 w15 _ _ M V HMx.o HVx.o HF.o.1 HF.o.2.2.1 HF.o.2.1 HF.o.2.2.2).mono ?_; rintro e w16 ⟨hB, x2, rfl, hb⟩; have Tx2 := hZ hb; replace HBr := oT HBr hB; clear hb; replace HA := HA.b hB; replace HC := HC.b hB; replace HMx := HMx.b hB; replace HVx := HVx.b hB; replace HB := bT HB hB; clear hB; refine hK.out _ _ HBr.o (fun hHeld => ?_); clear hK K
        try simp only [Act.put, sX1, sX2, sX3]
        have hx : x1 = x2 := by rw [Bool.eq_iff_iff, Tx1.o, Tx2.o]
        subst hx; clear Tx1 Tx2; have s1 : (x1 != x1) = false := by cases x1 <;> rfl
        refine pU 18 98 ?_; refine dU ?_; clear hHeld
        go_wp2_with fail
        go_roundw
        case rel => exact ⟨t + 1, by omega, by go_num, HA, HC, HB⟩
        case measure => simp [intOf]; omega
       ·skip
        obtain rfl : t = 4 := by omega
        go_wp2_with fail
        go_roundw
        case rel => exact ⟨j + 1, by omega, by go_num, HA, HC, HB⟩
        case measure => simp [intOf]; omega
     ·skip
      obtain rfl : j = 3 := by omega
      go_wp2_with fail
      refine (qIZ w13).mono ?_; rintro e w14 ⟨rfl, hB⟩; replace HA := HA.b hB; replace HC := HC.b hB; replace HB := bT HB hB; clear hB
      go_wp2_with fail
      go_ret; exact ⟨rfl, HB.o⟩
end Go.Proofs.Ytlmbebbdamgfpaa
