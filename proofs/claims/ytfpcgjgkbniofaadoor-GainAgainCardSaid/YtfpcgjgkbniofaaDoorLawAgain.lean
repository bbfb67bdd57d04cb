/- the law GainAgain: its walk. -/
import Derived.Test.YtfpcgjgkbniofaaDoorLawShortest
set_option linter.unusedVariables false
set_option linter.unusedSimpArgs false
namespace Go.Proofs.YtfpcgjgkbniofaaDoor
open Go.RowKit
attribute [local go_sem] Oper.semAt_some

/-- append(s, x...) of numbers, at a step of a region -/
theorem step_appN {P : Program} {W0 w : World} {ops : Array Oper} {o : Oper} {a : Act} {K : Act → World → Prop} {Q : Exit → Act → World → Prop} {E : Prop} {B k bytes : Nat} {t e : TypeId} (hE : Elem P t e k bytes) (hgd : o.guard = none) (d : Nat) (hd : o.dst = some d) (s x : Operand)
    (ho : o.op = .call { callee := .builtin .append, args := #[s, x], argTypes := #[t, t] })
    (v : Value) (n : Nat) (xs : List Value) (hs : a.eval s = v) (ad : Addr) (m c : Nat) (cs : List Value) (hx : a.eval x = .slice (some ad) m c) (hcs : cs.length = m * k) (hnews : ∀ j u, cs[j]? = some u → w.cell? (ad.add j) = some u) (h1 : ∀ u ∈ cs, u.oneCell' = true) (hm : 0 < m)
    (hown : w.ownsRow B e k v n xs) (hB : Below B W0 w) (hle : B ≤ w.heap.size) (hn : n + m ≤ 1000000000) (hby : bytes ≤ 1000)
    (h : ∀ g cap w', Hid (w'.ownsRow B e k (.slice (some ⟨g, 0, none⟩) (n + m) cap) (n + m) (xs ++ cs)) → Hid (Below B W0 w') → Hid (Only (fun b => v.ownBlock = some b) w w') → cap ≤ 9223372036854775807 → n + m ≤ cap → K ⟨a.tmps.setIfInBounds d (.slice (some ⟨g, 0, none⟩) (n + m) cap), a.defers⟩ w') :
    if Region.wanted o (yielded ops a.tmps) = true then Oper.wp P o a w K Q else E := by
  obtain ⟨ht, i, z, hi, hz, hsize, hbyt, hzs, hk⟩ := hE
  have hcap : (n + m) * bytes ≤ 140737488355328 := Nat.le_trans (Nat.mul_le_mul hn hby) (by decide)
  refine step_append_lies w hgd s x t ho B e i z k bytes ht hi hz hsize hbyt hzs hk v n xs hs hown ad m c cs hx hcs hnews h1 hm (by unfold maxLen; omega) hcap hle w.heap.size rfl ?_
  intro g cap w' ho' hg hat hlt
  have hO := only_of_grown hg
  have hc2 : cap ≤ 9223372036854775807 ∧ n + m ≤ cap := by
    rcases ho'.2 with ⟨hv, _⟩ | ⟨_, _, _, hv, _, _, h4, h3, _⟩
    · cases hv
    · injection hv with _ _ e
      unfold maxLen at h3
      omega
  rw [hd]
  exact h g cap w' (Lib.hid ho') (Lib.hid (hO.below hB hle (fun k e => (hown.lt k e).1))) (Lib.hid hO) hc2.1 hc2.2
theorem again_mem {c : Cat} {x : List Nat} (h : scan (gainS c) (seqs (usL c) 4) 3000 = .found x) : 1 ≤ x.length ∧ x.length ≤ 4 ∧ gainS c x = true ∧ ∀ y ∈ x, y ∈ usL c := by
  obtain ⟨hx, hg⟩ := scan_mem h
  obtain ⟨k, hk, hxk⟩ := List.mem_flatMap.1 hx
  rw [List.mem_range] at hk
  obtain ⟨e1, e2, e3⟩ := ext_mem hxk
  exact ⟨by omega, by omega, hg, e2⟩
theorem gain_nonneg {c : Cat} {x : List Nat} (h : gainS c x = true) (i : Nat) (hi : i < c.items.length) : 0 ≤ netF i (rsOf c x) := by
  unfold gainS gainsB at h
  rw [Bool.and_eq_true, List.all_eq_true] at h
  have := h.1 (netF i (rsOf c x)) (List.mem_map.2 ⟨i, List.mem_range.2 hi, rfl⟩)
  simpa using this
theorem rsOf_append (c : Cat) (a b : List Nat) : rsOf c (a ++ b) = rsOf c a ++ rsOf c b := by simp [rsOf]
theorem run_thrice {c : Cat} {x : List Nat} (h : gainS c x = true) : runB c (x ++ x ++ x) (fun i => needF i (rsOf c x)) = true := by
  refine runB_true.2 (fun i hi => ?_)
  rw [rsOf_append, rsOf_append]
  exact need_thrice i _ (gain_nonneg h i hi)
theorem net_thrice (c : Cat) (x : List Nat) (i : Nat) : netF i (rsOf c (x ++ x ++ x)) = 3 * netF i (rsOf c x) := by
  rw [rsOf_append, rsOf_append, netF_append, netF_append]
  omega

theorem nats_cells {w : World} {g : Nat} {n cap : Nat} {x : List Nat} (h : NatsOf w (.slice (some ⟨g, 0, none⟩) n cap) x) (hn : n = x.length) : ∀ j u, (x.map natV)[j]? = some u → w.cell? ((⟨g, 0, none⟩ : Addr).add j) = some u := by
  intro j u hu
  have hj : j < x.length := by
    rcases Nat.lt_or_ge j x.length with h1 | h1
    · exact h1
    · rw [List.getElem?_eq_none (by rw [List.length_map]; exact h1)] at hu; cases hu
  obtain ⟨b', cap', hv', _, hc⟩ := NatsOf.at_ h j hj
  subst hn
  injection hv' with e1 e2 e3
  injection e1 with e1
  injection e1 with e1
  subst e1
  have hadd : (⟨g, 0, none⟩ : Addr).add j = ⟨g, j, none⟩ := by unfold Addr.add; split <;> simp_all
  rw [List.getElem?_map, List.getElem?_eq_getElem hj] at hu
  rw [hadd, hc]
  exact hu

set_option maxRecDepth 100000 in
set_option maxHeartbeats 4000000 in
theorem gainAgain_any (v1 : Value) (zs : List Int) (n1 : Nat) (w : World) (h1 : IntsAt w v1 zs n1) (hK : Kinds w) :
    Calls Tryd.prog 5 #[v1] w fun e w' => e = .returned (.bool true) ∧ Below w.heap.size w w' := by
  have HI := Lib.hid h1
  have HK := Lib.hid hK
  have HB := Lib.hid (Below.refl w.heap.size w)
  obtain ⟨bal, hbal⟩ : ∃ bal, false = bal := ⟨_, rfl⟩
  clear h1 hK
  go_enter Tryd.func5, Tryd.ntmps5
  go_wp2_with fail
  rw [hbal]
  clear hbal
  refine (catalog_any _ zs n1 bal _ (HI.out.below (Nat.le_refl _) HB.out)).mono ?_
  rintro e w1 ⟨⟨vi, vr, rfl, hc⟩, hB⟩
  obtain ⟨c, hcc⟩ : ∃ c, genCat (pkOf zs n1) bal = c := ⟨_, rfl⟩
  have hf := genCat_fine (bal := bal) (picks_of zs n1)
  have hr6 := genCat_rules (bal := bal) (picks_of zs n1)
  rw [hcc] at hc hf hr6
  have HCC := Lib.hid hcc
  have HF := Lib.hid hf
  replace HB := Lib.hid (HB.out.trans (hB.mono HB.out.size))
  obtain ⟨ai, ci, rfl, hi1, hi2⟩ := hc.items.form
  obtain ⟨ar, cr, rfl, hr1, hr2⟩ := hc.rules.form
  have HC := Lib.hid hc
  have hli := hf.good.items
  have hl1 := hf.good.some_
  clear hcc hf hc hB
  unfold catV
  go_wp2_with fail
  obtain ⟨w2, hw⟩ : ∃ w2, w1.alloc (.cells #[.slice ai c.items.length ci, .slice ar c.rules.length cr, .slice none 0 0, .slice none 0 0] 29) = w2 := ⟨_, rfl⟩
  have hB : Below w1.heap.size w1 w2 := by rw [← hw]; exact (Below.refl _ _).alloc (Nat.le_refl _) _
  have HX : Hid (BoxC w2 w1.heap.size (.slice ai c.items.length ci) (.slice ar c.rules.length cr)) := Lib.hid (by rw [← hw]; exact BoxC.new _ _ _)
  replace HB := Lib.hid (HB.out.trans (hB.mono HB.out.size))
  replace HC := Lib.hid (HC.out.below hB)
  rw [hw]
  clear hB hw
  have m0 := HX.out.c0
  have m1 := HX.out.c1
  have m2 := HX.out.c2
  have m3 := HX.out.c3
  have mlt := HX.out.lt
  have hu16 : (usL c).length ≤ 16 := by have := usT_len c c.rules.length; show (usT c c.rules.length).length ≤ 16; omega
  refine (callsIn_wide.1 (find_main (.slice ai c.items.length ci) (.slice ar c.rules.length cr) c 4 3000 w2 HC.out HF.out (by omega) (by omega) hu16 (by decide) (by decide) (HK.out.keep HB.out))).mono ?_
  rintro e w6 ⟨hB, y1, y2, y3, b, er, rfl, hfi⟩
  replace HB := Lib.hid (HB.out.trans (hB.mono HB.out.size))
  replace HX := Lib.hid (HX.out.below hB)
  replace HC := Lib.hid (HC.out.below hB)
  clear m0 m1 m2 m3 mlt
  have m0 := HX.out.c0
  have m1 := HX.out.c1
  have m2 := HX.out.c2
  have m3 := HX.out.c3
  have mlt := HX.out.lt
  clear hB hu16
  obtain ⟨R, hR⟩ : ∃ R, scan (gainS c) (seqs (usL c) 4) 3000 = R := ⟨_, rfl⟩
  rw [hR] at hfi
  cases R with
  | empty =>
    obtain ⟨rfl, rfl, rfl, rfl, rfl⟩ := hfi
    clear hR
    unfold nilS
    go_wp2_with fail
    obtain ⟨w7, hw7⟩ : ∃ W, w6.alloc (.cells #[.slice none 0 0, .slice none 0 0, .slice none 0 0] 39) = W := ⟨_, rfl⟩
    have hB : Below w6.heap.size w6 w7 := by rw [← hw7]; exact (Below.refl _ _).alloc (Nat.le_refl _) _
    replace HB := Lib.hid (HB.out.trans (hB.mono HB.out.size))
    rw [hw7]
    clear hw7 hB m0 m1 m2 m3 mlt
    refine (lives_any _ (HK.out.keep HB.out)).mono ?_
    rintro e w9 ⟨rfl, hB⟩
    replace HB := Lib.hid (HB.out.trans (hB.mono HB.out.size))
    clear hB
    go_wp2_with fail
    go_ret
    exact ⟨rfl, HB.out⟩
  | nothing =>
    obtain ⟨rfl, rfl, rfl, rfl, rfl⟩ := hfi
    clear hR
    unfold nilS
    go_wp2_with fail
    obtain ⟨w7, hw7⟩ : ∃ W, w6.alloc (.cells #[.slice none 0 0, .slice none 0 0, .slice none 0 0] 39) = W := ⟨_, rfl⟩
    have hB : Below w6.heap.size w6 w7 := by rw [← hw7]; exact (Below.refl _ _).alloc (Nat.le_refl _) _
    replace HB := Lib.hid (HB.out.trans (hB.mono HB.out.size))
    rw [hw7]
    clear hw7 hB m0 m1 m2 m3 mlt
    refine (lives_any _ (HK.out.keep HB.out)).mono ?_
    rintro e w9 ⟨rfl, hB⟩
    replace HB := Lib.hid (HB.out.trans (hB.mono HB.out.size))
    clear hB
    go_wp2_with fail
    go_ret
    exact ⟨rfl, HB.out⟩
  | found x =>
    obtain ⟨rfl, rfl, hy1, hy2, hy3⟩ := hfi
    obtain ⟨hx1, hx4, hgx, hxu⟩ := again_mem hR
    have HU := Lib.hid (us_of (by omega) hxu)
    have HG := Lib.hid hgx
    have hnl : (netL c x).length = c.items.length := by simp [netL]
    have hdl : (needL c x).length = c.items.length := by simp [needL]
    obtain ⟨a1, c1, rfl, hc11, hc12⟩ := hy1.form
    obtain ⟨a2, c2, rfl, hc21, hc22⟩ := hy2.form
    obtain ⟨a3, c3, rfl, hc31, hc32⟩ := hy3.form
    rw [hdl] at hc21 hy2 ⊢
    rw [hnl] at hc31 hy3 ⊢
    have H1 := Lib.hid hy1
    have H2 := Lib.hid hy2
    have H3 := Lib.hid hy3
    clear hy1 hy2 hy3 hnl hdl hR hgx hxu
    go_wp2_with fail
    obtain ⟨w7, hw7⟩ : ∃ W, w6.alloc (.cells #[.slice a1 x.length c1, .slice a2 c.items.length c2, .slice a3 c.items.length c3] 39) = W := ⟨_, rfl⟩
    have hB : Below w6.heap.size w6 w7 := by rw [← hw7]; exact (Below.refl _ _).alloc (Nat.le_refl _) _
    have HY : Hid (BoxL w7 w6.heap.size (.slice a1 x.length c1) (.slice a2 c.items.length c2) (.slice a3 c.items.length c3)) := Lib.hid (by rw [← hw7]; exact BoxL.new _ _ _ _ _)
    rw [hw7]
    replace HB := Lib.hid (HB.out.trans (hB.mono HB.out.size))
    replace HC := Lib.hid (HC.out.below hB)
    replace HX := Lib.hid (HX.out.below hB)
    replace H1 := Lib.hid (H1.out.below hB)
    replace H2 := Lib.hid (H2.out.below hB)
    replace H3 := Lib.hid (H3.out.below hB)
    clear hw7 hB m0 m1 m2 m3 mlt
    go_loopw [7] (fun i wr => ∃ k : Nat, k ≤ x.length ∧ i = .int .i64 k ∧ Hid (Below w7.heap.size w7 wr)) (fun i _ => x.length - (intOf i).toNat)
    case atStart => exact ⟨0, by omega, rfl, Lib.hid (Below.refl _ _)⟩
    case round =>
      obtain ⟨k, hk, rfl, HBl⟩ := hrel
      have hBl := HBl.out
      replace HB := Lib.hid (HB.out.trans (hBl.mono HB.out.size))
      replace HX := Lib.hid (HX.out.below hBl)
      replace HC := Lib.hid (HC.out.below hBl)
      replace HY := Lib.hid (HY.out.below hBl)
      replace H1 := Lib.hid (H1.out.below hBl)
      replace H2 := Lib.hid (H2.out.below hBl)
      replace H3 := Lib.hid (H3.out.below hBl)
      have l0 := HY.out.c0
      have m1 := HX.out.c1
      have llt := HY.out.lt
      have mlt := HX.out.lt
      clear hBl
      by_cases hlt : k < x.length
      · obtain ⟨b1, cp1, hv, hb1, x0⟩ := NatsOf.at_ H1.out k hlt
        injection hv with e1 e2 e3
        subst e1
        clear e2 e3
        have hy := HU.out.lt x[k] (List.getElem_mem hlt)
        generalize x[k] = y at *
        have q1 : decide ((y : Int) < 0) = false := decide_eq_false (by omega)
        have q2 : decide ((c.rules.length : Int) ≤ (y : Int)) = false := decide_eq_false (by omega)
        have q3 : decide (c.rules.length ≤ y) = false := decide_eq_false (by omega)
        have i1 : (k : Int) < (x.length : Int) := by omega
        go_wp2_with fail
        go_region
        go_wp2_with fail
        go_roundw
        case rel => exact ⟨k + 1, by omega, by go_num, Lib.hid HBl.out.drew⟩
        case measure => simp [intOf]; omega
      · have q1 : decide ((k : Int) < (x.length : Int)) = false := decide_eq_false (by omega)
        clear HBl
        obtain ⟨w8, rfl⟩ : ∃ wo : World, wo = wr := ⟨_, rfl⟩
        obtain ⟨b1, cp1, hv, hb1, -⟩ := NatsOf.at_ H1.out 0 (by omega)
        injection hv with e1 e2 e3
        subst e1
        clear e2 e3
        go_wp2_with fail
        clear l0 m1
        refine startK 99 (fun W => W.cell? ⟨w6.heap.size, 0, none⟩ = some (.slice (some ⟨b1, 0, none⟩) x.length c1)) (by kernel_rfl) (HY.out.c0) (fun hHeld => ?_)
        refine takeK 1 75 (v := ?_) rfl rfl (by kernel_rfl) (by kernel_rfl) (by kernel_rfl) (by kernel_rfl) (fun _ _ _ h => h) (by rfl) ?_ (by assumption) ?_
        rotate_left
        · (intro w hSw; go_simp; first | done | with_reducible rfl)
        simp only [List.setIfInBounds_toArray, List.set_cons_zero, List.set_cons_succ]
        refine takeK 2 76 (v := ?_) rfl rfl (by kernel_rfl) (by kernel_rfl) (by kernel_rfl) (by kernel_rfl) (fun _ _ _ h => h) (by rfl) ?_ (by assumption) ?_
        rotate_left
        · (intro w hSw; go_simp; first | done | with_reducible rfl)
        simp only [List.setIfInBounds_toArray, List.set_cons_zero, List.set_cons_succ]
        refine takeK 4 78 (v := ?_) rfl rfl (by kernel_rfl) (by kernel_rfl) (by kernel_rfl) (by kernel_rfl) (fun _ _ _ h => h) (by rfl) ?_ (by assumption) ?_
        rotate_left
        · (intro w hSw; go_simp; first | done | with_reducible rfl)
        simp only [List.setIfInBounds_toArray, List.set_cons_zero, List.set_cons_succ]
        refine takeK 5 79 (v := ?_) rfl rfl (by kernel_rfl) (by kernel_rfl) (by kernel_rfl) (by kernel_rfl) (fun _ _ _ h => h) (by rfl) ?_ (by assumption) ?_
        rotate_left
        · (intro w hSw; go_simp; first | done | with_reducible rfl)
        simp only [List.setIfInBounds_toArray, List.set_cons_zero, List.set_cons_succ]
        refine takeK 7 81 (v := ?_) rfl rfl (by kernel_rfl) (by kernel_rfl) (by kernel_rfl) (by kernel_rfl) (fun _ _ _ h => h) (by rfl) ?_ (by assumption) ?_
        rotate_left
        · (intro w hSw; go_simp; first | done | with_reducible rfl)
        simp only [List.setIfInBounds_toArray, List.set_cons_zero, List.set_cons_succ]
        refine takeK 8 82 (v := ?_) rfl rfl (by kernel_rfl) (by kernel_rfl) (by kernel_rfl) (by kernel_rfl) (fun _ _ _ h => h) (by rfl) ?_ (by assumption) ?_
        rotate_left
        · (intro w hSw; go_simp; first | done | with_reducible rfl)
        simp only [List.setIfInBounds_toArray, List.set_cons_zero, List.set_cons_succ]
        refine stepK 0 (by kernel_rfl) rfl (fun K hK => ?_)
        go_simp
        obtain ⟨w9, hw9⟩ : ∃ W, (w8.alloc (.cells #[] 3)).drew = W := ⟨_, rfl⟩
        have HB9 : Hid (Below w8.heap.size w8 w9) := Lib.hid (by rw [← hw9]; exact ((Below.refl _ _).alloc (Nat.le_refl _) _).drew)
        have HO9 : Hid (w9.ownsRow w8.heap.size 3 1 (.slice (some ⟨w8.heap.size, 0, none⟩) 0 0) 0 []) := Lib.hid (by rw [← hw9]; exact World.ownsRow_made w8 #[] 0 (Nat.le_refl _) (by unfold maxLen; omega) (by simp))
        rw [hw9]
        clear hHeld hw9
        go_wp2_with fail
        refine hK.out _ _ ((HY.out.below HB9.out).c0) (fun hHeld => ?_)
        clear hK K
        try simp only [Act.put, List.setIfInBounds_toArray, List.set_cons_zero, List.set_cons_succ]
        refine stepK 3 (by kernel_rfl) rfl (fun K hK => ?_)
        refine step_appN (W0 := w8) (B := w8.heap.size) elemInt rfl (77) rfl _ _ rfl (.slice (some ⟨w8.heap.size, 0, none⟩) 0 0) (0) ([]) rfl ⟨b1, 0, none⟩ x.length c1 (x.map natV) rfl (by simp) (nats_cells (H1.out.below HB9.out) rfl) (by simp [natV, Value.oneCell']) (by omega) HO9.out HB9.out HB9.out.size (by omega) (by omega) ?_
        intro g1 cq w10 HOW HBX HOX hcq1 hcq2
        clear hHeld HOX
        simp only [List.setIfInBounds_toArray, List.set_cons_zero, List.set_cons_succ]
        go_wp2_with fail
        refine hK.out _ _ ((HY.out.below HBX.out).c0) (fun hHeld => ?_)
        clear hK K
        try simp only [Act.put, List.setIfInBounds_toArray, List.set_cons_zero, List.set_cons_succ]
        refine stepK 6 (by kernel_rfl) rfl (fun K hK => ?_)
        refine step_appN (W0 := w8) (B := w8.heap.size) elemInt rfl (80) rfl _ _ rfl (.slice (some ⟨g1, 0, none⟩) (0 + x.length) cq) (0 + x.length) ([] ++ x.map natV) rfl ⟨b1, 0, none⟩ x.length c1 (x.map natV) rfl (by simp) (nats_cells (H1.out.below HBX.out) rfl) (by simp [natV, Value.oneCell']) (by omega) HOW.out HBX.out HBX.out.size (by omega) (by omega) ?_
        intro g2 cq w11 HOW HBX HOX hcq1 hcq2
        clear hHeld HOX
        simp only [List.setIfInBounds_toArray, List.set_cons_zero, List.set_cons_succ]
        go_wp2_with fail
        refine hK.out _ _ ((HY.out.below HBX.out).c0) (fun hHeld => ?_)
        clear hK K
        try simp only [Act.put, List.setIfInBounds_toArray, List.set_cons_zero, List.set_cons_succ]
        refine stepK 9 (by kernel_rfl) rfl (fun K hK => ?_)
        refine step_appN (W0 := w8) (B := w8.heap.size) elemInt rfl (83) rfl _ _ rfl (.slice (some ⟨g2, 0, none⟩) (0 + x.length + x.length) cq) (0 + x.length + x.length) ([] ++ x.map natV ++ x.map natV) rfl ⟨b1, 0, none⟩ x.length c1 (x.map natV) rfl (by simp) (nats_cells (H1.out.below HBX.out) rfl) (by simp [natV, Value.oneCell']) (by omega) HOW.out HBX.out HBX.out.size (by omega) (by omega) ?_
        intro g3 cq w12 HOW HBX HOX hcq1 hcq2
        clear hHeld HOX
        simp only [List.setIfInBounds_toArray, List.set_cons_zero, List.set_cons_succ]
        go_wp2_with fail
        refine hK.out _ _ ((HY.out.below HBX.out).c0) (fun hHeld => ?_)
        clear hK K
        try simp only [Act.put, List.setIfInBounds_toArray, List.set_cons_zero, List.set_cons_succ]
        refine takeK 10 8 (v := ?_) rfl rfl (by kernel_rfl) (by kernel_rfl) (by kernel_rfl) (by kernel_rfl) (fun _ _ _ h => h) (by rfl) ?_ (by assumption) ?_
        rotate_left
        · (intro w hSw; go_simp; first | done | with_reducible rfl)
        simp only [List.setIfInBounds_toArray, List.set_cons_zero, List.set_cons_succ]
        refine doneK (by kernel_rfl) ?_ _
        clear hHeld
        have e3 : 0 + x.length + x.length + x.length = (x ++ x ++ x).length := by simp; omega
        have HRX : Hid (NatsOf w12 (.slice (some ⟨g3, 0, none⟩) (x ++ x ++ x).length cq) (x ++ x ++ x)) := Lib.hid (nats_of_own (by
          have h9 := HOW.out
          rw [e3] at h9
          simpa using h9))
        have hB := HBX.out
        replace HB := Lib.hid (HB.out.trans (hB.mono HB.out.size))
        replace HX := Lib.hid (HX.out.below hB)
        replace HC := Lib.hid (HC.out.below hB)
        replace HY := Lib.hid (HY.out.below hB)
        replace H1 := Lib.hid (H1.out.below hB)
        replace H2 := Lib.hid (H2.out.below hB)
        replace H3 := Lib.hid (H3.out.below hB)
        clear hB HBX HOW e3 HB9 HO9 hb1 llt
        have HUX : Hid (UsS c (x ++ x ++ x)) := Lib.hid ⟨by simp; omega, fun i hi => by simp at hi; exact HU.out.2 i hi⟩
        have HN6 := Lib.hid (fun i => Int.le_trans (needF_le i (rsOf c x) (rsOf_good HF.out.good x)) (show 2000 * ((rsOf c x).length : Int) ≤ 8000 by have := rsOf_len c x; omega))
        have HT6 := Lib.hid (fun i => netF_le i (rsOf c x) (rsOf_good HF.out.good x))
        have hrl := rsOf_len c x
        have l1 := HY.out.c1
        have llt := HY.out.lt
        clear mlt
        have m0 := HX.out.c0
        have m1 := HX.out.c1
        have m2 := HX.out.c2
        have m3 := HX.out.c3
        have mlt := HX.out.lt
        obtain ⟨xx, hxx⟩ : ∃ xx, x ++ x ++ x = xx := ⟨_, rfl⟩
        have hxl : xx.length ≤ 12 := by rw [← hxx]; simp; omega
        have HRT : Hid (runB c xx (fun i => needF i (rsOf c x)) = true) := Lib.hid (by rw [← hxx]; exact run_thrice HG.out)
        have HNT : Hid (∀ i, netF i (rsOf c xx) = 3 * netF i (rsOf c x)) := Lib.hid (fun i => by rw [← hxx]; exact net_thrice c x i)
        have e4 : x.length + x.length + x.length = xx.length := by rw [← hxx]; simp; omega
        rw [hxx] at HUX HRX
        clear hxx
        go_wp2_with fail
        rw [e4]
        clear e4
        refine (run_any _ _ _ _ c xx (fun i => needF i (rsOf c x)) _ HC.out HF.out.good HRX.out H2.out HUX.out.lt (by omega) (fun i => needF_nonneg i _) (fun i => by have := HN6.out i; show needF i (rsOf c x) ≤ _; omega)).mono ?_
        rintro e w13 ⟨⟨vl, rfl, hl⟩, hB⟩
        rw [HRT.out] at hl ⊢
        have hL := hl rfl
        obtain ⟨la, lc, rfl, hlc1, hlc2⟩ := hL.form
        rw [List.length_map, List.length_range] at hL hlc1 ⊢
        have HL := Lib.hid hL
        replace HB := Lib.hid (HB.out.trans (hB.mono HB.out.size))
        replace HX := Lib.hid (HX.out.below hB)
        replace HC := Lib.hid (HC.out.below hB)
        replace HY := Lib.hid (HY.out.below hB)
        replace H1 := Lib.hid (H1.out.below hB)
        replace H2 := Lib.hid (H2.out.below hB)
        replace H3 := Lib.hid (H3.out.below hB)
        have l0 := HY.out.c0
        replace llt := HY.out.lt
        have q5 : IntKind.i64.wrap ((x.length : Int) - 1) = (x.length : Int) - 1 := IntWalk.i64_in _ (by omega)
        clear hB hL hl l1 m0 m1 m2 m3 mlt HRX HUX HRT
        go_wp2_with fail
        clear l0
        go_loopw [11, 12] (fun o i wr => ∃ (k : Nat) (ga : Option Addr) (gc : Nat), k ≤ x.length ∧ i = .int .i64 ((x.length : Int) - 1 - k) ∧ o = .slice ga k gc ∧ gc ≤ 9223372036854775807 ∧ k ≤ gc ∧ Hid (wr.ownsRow w13.heap.size 3 1 (.slice ga k gc) k ((x.reverse.take k).map natV)) ∧ Hid (Below w13.heap.size w13 wr)) (fun _ i _ => (intOf i + 1).toNat)
        case atStart => exact ⟨0, none, 0, by omega, by simp, rfl, by omega, by omega, Lib.hid (by simpa using World.ownsRow_nil _ _ _ _), Lib.hid (Below.refl _ _)⟩
        case round =>
          obtain ⟨k, ga, gc, hk, rfl, rfl, hgc, hkg, HO, HBl⟩ := hrel
          have hBl := HBl.out
          replace HB := Lib.hid (HB.out.trans (hBl.mono HB.out.size))
          replace HX := Lib.hid (HX.out.below hBl)
          replace HC := Lib.hid (HC.out.below hBl)
          replace HY := Lib.hid (HY.out.below hBl)
          replace H1 := Lib.hid (H1.out.below hBl)
          replace H2 := Lib.hid (H2.out.below hBl)
          replace H3 := Lib.hid (H3.out.below hBl)
          replace HL := Lib.hid (HL.out.below hBl)
          clear hBl llt
          by_cases hlt : k < x.length
          · have hmk : ((x.length : Int) - 1 - k) = ((x.length - 1 - k : Nat) : Int) := by omega
            have hrv : x.reverse.take (k + 1) = x.reverse.take k ++ [x[x.length - 1 - k]] := by
              rw [List.take_succ_eq_append_getElem (by simpa using hlt), List.getElem_reverse]
            obtain ⟨b2, cp2, hv, hb2, x0⟩ := NatsOf.at_ H1.out (x.length - 1 - k) (by omega)
            injection hv with e1 e2 e3
            injection e1 with e1
            injection e1 with e1
            subst e1
            clear e2 e3
            rw [hmk]
            have HRV := Lib.hid hrv
            generalize x[x.length - 1 - k] = y at *
            obtain ⟨m, hm⟩ : ∃ m, x.length - 1 - k = m := ⟨_, rfl⟩
            rw [hm] at x0 ⊢
            have hml : m < x.length := by omega
            have i1 : (m : Int) < (x.length : Int) := by omega
            have q6 : decide ((0 : Int) ≤ (m : Int)) = true := decide_eq_true (by omega)
            have q7 : IntKind.i64.wrap ((m : Int) - 1) = (m : Int) - 1 := IntWalk.i64_in _ (by omega)
            have l0 := HY.out.c0
            clear hrv hmk
            go_wp2_with (at_builtin; refine wpList_app1 (W0 := w13) elemInt rfl _ _ rfl [.int .i64 (y : Int)] 3 _ _ _ rfl rfl rfl (by simp [Value.oneCell']) HO.out HBl.out HBl.out.size (by omega) (by omega) ?_)
            intro g6 cap6 w14 Hown6 HB6 HO6 hcap6 hat6
            have Hown7 : Hid (w14.ownsRow w13.heap.size 3 1 (.slice (some ⟨g6, 0, none⟩) (k + 1) cap6) (k + 1) ((x.reverse.take (k + 1)).map natV)) := Lib.hid (by have h9 := Hown6.out; rw [HRV.out]; simpa [natV] using h9)
            have hcl : k + 1 ≤ cap6 := by
              rcases Hown7.out.2 with ⟨hv, _⟩ | ⟨_, _, _, hv, _, _, h4, h3, _⟩
              · cases hv
              · injection hv with _ _ e; omega
            clear Hown6 HO6 hat6 HO l0
            go_wp2_with fail
            go_roundw
            case rel => exact ⟨k + 1, some ⟨g6, 0, none⟩, cap6, by omega, by rw [← hm]; first | rfl | (congr 1; omega), rfl, hcap6, hcl, Hown7, HB6⟩
            case measure => first | (simp [intOf]; done) | (simp [intOf]; omega)
          · have hkx : (x.length : Int) - 1 - k = -1 := by omega
            obtain rfl : x.length = k := by omega
            have HRB : Hid (NatsOf wr (.slice ga x.reverse.length gc) x.reverse) := Lib.hid (nats_of_own (by
              have h9 := HO.out
              rw [List.take_of_length_le (by simp)] at h9
              simpa using h9))
            have HUR : Hid (UsS c x.reverse) := Lib.hid ⟨by simp; omega, fun i hi => HU.out.2 i (by simpa using hi)⟩
            rw [List.length_reverse] at HRB
            have HNP : Hid (netL c x.reverse = netL c x) := Lib.hid (netL_perm x.reverse_perm)
            rw [hkx]
            have q6 : decide ((0 : Int) ≤ -1) = false := by decide
            have l2 := HY.out.c2
            have llt := HY.out.lt
            have m0 := HX.out.c0
            have m1 := HX.out.c1
            have m2 := HX.out.c2
            have m3 := HX.out.c3
            have mlt := HX.out.lt
            clear HO HBl hkx
            go_wp2_with fail
            refine (net_ok _ _ _ c x.reverse _ HC.out HF.out HRB.out HUR.out (HK.out.keep HB.out)).mono ?_
            rintro e w15 ⟨⟨vm, rfl, hm⟩, hB⟩
            rw [HNP.out] at hm
            obtain ⟨ma, mc, rfl, hm1, hm2⟩ := hm.form
            have hnl : (netL c x).length = c.items.length := by simp [netL]
            rw [hnl] at hm1 hm ⊢
            have HM := Lib.hid hm
            replace HB := Lib.hid (HB.out.trans (hB.mono HB.out.size))
            replace HY := Lib.hid (HY.out.below hB)
            replace H2 := Lib.hid (H2.out.below hB)
            replace H3 := Lib.hid (H3.out.below hB)
            replace HL := Lib.hid (HL.out.below hB)
            replace l2 := HY.out.c2
            clear hB hm hnl m0 m1 m2 m3 mlt llt
            have llt := HY.out.lt
            go_wp2_with fail
            refine (sameInts_any _ _ _ _ _ HM.out H3.out).mono ?_
            rintro e w16 ⟨rfl, hB⟩
            replace HB := Lib.hid (HB.out.trans (hB.mono HB.out.size))
            replace HY := Lib.hid (HY.out.below hB)
            replace H2 := Lib.hid (H2.out.below hB)
            replace H3 := Lib.hid (H3.out.below hB)
            replace HL := Lib.hid (HL.out.below hB)
            simp only [decide_true]
            clear hB l2 llt
            go_wp2_with fail
            go_loopw [15] (fun i wr => ∃ k : Nat, k ≤ c.items.length ∧ i = .int .i64 k ∧ Hid (Below w16.heap.size w16 wr)) (fun i _ => c.items.length - (intOf i).toNat)
            case atStart => exact ⟨0, by omega, rfl, Lib.hid (Below.refl _ _)⟩
            case round =>
              obtain ⟨k, hk, rfl, HBl⟩ := hrel
              have hBl := HBl.out
              replace HB := Lib.hid (HB.out.trans (hBl.mono HB.out.size))
              replace HY := Lib.hid (HY.out.below hBl)
              replace H2 := Lib.hid (H2.out.below hBl)
              replace H3 := Lib.hid (H3.out.below hBl)
              replace HL := Lib.hid (HL.out.below hBl)
              clear hBl
              by_cases hlt : k < c.items.length
              · obtain ⟨bl, cl, hv, hbl, x0⟩ := IntsOf.at_ HL.out k (by simpa using hlt)
                injection hv with e1 e2 e3
                subst e1
                clear e2 e3
                obtain ⟨bn, cn, hv, hbn, x1⟩ := IntsOf.at_ H2.out k (by simpa [needL] using hlt)
                injection hv with e1 e2 e3
                subst e1
                clear e2 e3
                obtain ⟨bm, cm, hv, hbm, x2⟩ := IntsOf.at_ H3.out k (by simpa [netL] using hlt)
                injection hv with e1 e2 e3
                subst e1
                clear e2 e3
                replace x0 : wr.cell? ⟨bl, k, none⟩ = some (.int .i64 (needF k (rsOf c x) + 3 * netF k (rsOf c x))) := by rw [x0]; simp [HNT.out]
                replace x1 : wr.cell? ⟨bn, k, none⟩ = some (.int .i64 (needF k (rsOf c x))) := by rw [x1]; simp [needL]
                replace x2 : wr.cell? ⟨bm, k, none⟩ = some (.int .i64 (netF k (rsOf c x))) := by rw [x2]; simp [netL]
                have g1 := HN6.out k
                have g2 := needF_nonneg k (rsOf c x)
                have g3' := HT6.out k
                generalize needF k (rsOf c x) = nd at *
                generalize netF k (rsOf c x) = nt at *
                obtain ⟨sm, hsm⟩ : ∃ sm, nd + 3 * nt = sm := ⟨_, rfl⟩
                rw [hsm] at x0
                have hw0 : IntKind.i64.wrap (3 * nt) = 3 * nt := IntWalk.i64_in _ (by omega)
                have hw1 : IntKind.i64.wrap (nd + 3 * nt) = sm := by rw [IntWalk.i64_in _ (by omega)]; exact hsm
                have q0 : (sm != sm) = false := by simp
                have i1 : (0 : Int) ≤ (k : Int) := by omega
                have i2 : (k : Int) < (c.items.length : Int) := by omega
                have l1 := HY.out.c1
                have l2 := HY.out.c2
                clear hsm g1 g2 g3'
                go_wp2_with fail
                refine startK 99 (fun W => W.cell? ⟨bl, k, none⟩ = some (.int .i64 sm) ∧ W.cell? ⟨bn, k, none⟩ = some (.int .i64 nd) ∧ W.cell? ⟨bm, k, none⟩ = some (.int .i64 nt) ∧ W.cell? ⟨w6.heap.size, 1, none⟩ = some (.slice (some ⟨bn, 0, none⟩) c.items.length c2) ∧ W.cell? ⟨w6.heap.size, 2, none⟩ = some (.slice (some ⟨bm, 0, none⟩) c.items.length c3)) (by kernel_rfl) (⟨x0, x1, x2, l1, l2⟩) (fun hHeld => ?_)
                refine takeK 0 133 (v := ?_) rfl rfl (by kernel_rfl) (by kernel_rfl) (by kernel_rfl) (by kernel_rfl) (fun _ _ _ h => h) (by rfl) ?_ (by assumption) ?_
                rotate_left
                · (intro w hSw; go_simp; first | done | with_reducible rfl)
                simp only [List.setIfInBounds_toArray, List.set_cons_zero, List.set_cons_succ]
                refine takeK 1 134 (v := ?_) rfl rfl (by kernel_rfl) (by kernel_rfl) (by kernel_rfl) (by kernel_rfl) (fun _ _ _ h => h) (by rfl) ?_ (by assumption) ?_
                rotate_left
                · (intro w hSw; go_simp; first | done | with_reducible rfl)
                simp only [List.setIfInBounds_toArray, List.set_cons_zero, List.set_cons_succ]
                refine takeK 2 135 (v := ?_) rfl rfl (by kernel_rfl) (by kernel_rfl) (by kernel_rfl) (by kernel_rfl) (fun _ _ _ h => h) (by rfl) ?_ (by assumption) ?_
                rotate_left
                · (intro w hSw; go_simp; first | done | with_reducible rfl)
                simp only [List.setIfInBounds_toArray, List.set_cons_zero, List.set_cons_succ]
                refine takeK 3 136 (v := ?_) rfl rfl (by kernel_rfl) (by kernel_rfl) (by kernel_rfl) (by kernel_rfl) (fun _ _ _ h => h) (by rfl) ?_ (by assumption) ?_
                rotate_left
                · (intro w hSw; go_simp; first | done | with_reducible rfl)
                simp only [List.setIfInBounds_toArray, List.set_cons_zero, List.set_cons_succ]
                refine takeK 4 137 (v := ?_) rfl rfl (by kernel_rfl) (by kernel_rfl) (by kernel_rfl) (by kernel_rfl) (fun _ _ _ h => h) (by rfl) ?_ (by assumption) ?_
                rotate_left
                · (intro w hSw; go_simp; first | done | with_reducible rfl)
                simp only [List.setIfInBounds_toArray, List.set_cons_zero, List.set_cons_succ]
                refine takeK 5 138 (v := ?_) rfl rfl (by kernel_rfl) (by kernel_rfl) (by kernel_rfl) (by kernel_rfl) (fun _ _ _ h => h) (by rfl) ?_ (by assumption) ?_
                rotate_left
                · (intro w hSw; go_simp; first | done | with_reducible rfl)
                simp only [List.setIfInBounds_toArray, List.set_cons_zero, List.set_cons_succ]
                refine takeK 6 139 (v := ?_) rfl rfl (by kernel_rfl) (by kernel_rfl) (by kernel_rfl) (by kernel_rfl) (fun _ _ _ h => h) (by rfl) ?_ (by assumption) ?_
                rotate_left
                · (intro w hSw; go_simp; first | done | with_reducible rfl)
                simp only [List.setIfInBounds_toArray, List.set_cons_zero, List.set_cons_succ]
                refine takeK 7 140 (v := ?_) rfl rfl (by kernel_rfl) (by kernel_rfl) (by kernel_rfl) (by kernel_rfl) (fun _ _ _ h => h) (by rfl) ?_ (by assumption) ?_
                rotate_left
                · (intro w hSw; go_simp; first | done | with_reducible rfl)
                simp only [List.setIfInBounds_toArray, List.set_cons_zero, List.set_cons_succ]
                refine takeK 8 141 (v := ?_) rfl rfl (by kernel_rfl) (by kernel_rfl) (by kernel_rfl) (by kernel_rfl) (fun _ _ _ h => h) (by rfl) ?_ (by assumption) ?_
                rotate_left
                · (intro w hSw; go_simp; first | done | with_reducible rfl)
                simp only [List.setIfInBounds_toArray, List.set_cons_zero, List.set_cons_succ]
                refine takeK 9 142 (v := ?_) rfl rfl (by kernel_rfl) (by kernel_rfl) (by kernel_rfl) (by kernel_rfl) (fun _ _ _ h => h) (by rfl) ?_ (by assumption) ?_
                rotate_left
                · (intro w hSw; go_simp; first | done | with_reducible rfl)
                simp only [List.setIfInBounds_toArray, List.set_cons_zero, List.set_cons_succ]
                refine takeK 10 143 (v := ?_) rfl rfl (by kernel_rfl) (by kernel_rfl) (by kernel_rfl) (by kernel_rfl) (fun _ _ _ h => h) (by rfl) ?_ (by assumption) ?_
                rotate_left
                · (intro w hSw; go_simp; first | done | with_reducible rfl)
                simp only [List.setIfInBounds_toArray, List.set_cons_zero, List.set_cons_succ]
                refine takeK 11 144 (v := ?_) rfl rfl (by kernel_rfl) (by kernel_rfl) (by kernel_rfl) (by kernel_rfl) (fun _ _ _ h => h) (by rfl) ?_ (by assumption) ?_
                rotate_left
                · (intro w hSw; go_simp; first | done | with_reducible rfl)
                simp only [List.setIfInBounds_toArray, List.set_cons_zero, List.set_cons_succ]
                refine takeK 12 145 (v := ?_) rfl rfl (by kernel_rfl) (by kernel_rfl) (by kernel_rfl) (by kernel_rfl) (fun _ _ _ h => h) (by rfl) ?_ (by assumption) ?_
                rotate_left
                · (intro w hSw; go_simp; first | done | with_reducible rfl)
                simp only [List.setIfInBounds_toArray, List.set_cons_zero, List.set_cons_succ]
                refine takeK 13 146 (v := ?_) rfl rfl (by kernel_rfl) (by kernel_rfl) (by kernel_rfl) (by kernel_rfl) (fun _ _ _ h => h) (by rfl) ?_ (by assumption) ?_
                rotate_left
                · (intro w hSw; go_simp; first | done | with_reducible rfl)
                simp only [List.setIfInBounds_toArray, List.set_cons_zero, List.set_cons_succ]
                refine takeK 14 147 (v := ?_) rfl rfl (by kernel_rfl) (by kernel_rfl) (by kernel_rfl) (by kernel_rfl) (fun _ _ _ h => h) (by rfl) ?_ (by assumption) ?_
                rotate_left
                · (intro w hSw; go_simp; first | done | with_reducible rfl)
                simp only [List.setIfInBounds_toArray, List.set_cons_zero, List.set_cons_succ]
                refine takeK 15 148 (v := ?_) rfl rfl (by kernel_rfl) (by kernel_rfl) (by kernel_rfl) (by kernel_rfl) (fun _ _ _ h => h) (by rfl) ?_ (by assumption) ?_
                rotate_left
                · (intro w hSw; go_simp; first | done | with_reducible rfl)
                simp only [List.setIfInBounds_toArray, List.set_cons_zero, List.set_cons_succ]
                refine takeK 16 149 (v := ?_) rfl rfl (by kernel_rfl) (by kernel_rfl) (by kernel_rfl) (by kernel_rfl) (fun _ _ _ h => h) (by rfl) ?_ (by assumption) ?_
                rotate_left
                · (intro w hSw; go_simp; first | done | with_reducible rfl)
                simp only [List.setIfInBounds_toArray, List.set_cons_zero, List.set_cons_succ]
                refine doneK (by kernel_rfl) ?_ _
                clear hHeld
                clear x0 x1 x2 l1 l2
                go_wp2_with fail
                go_roundw
                case rel => exact ⟨k + 1, by omega, by go_num, Lib.hid HBl.out.drew⟩
                case measure => simp [intOf]; omega
              · have q1 : decide ((k : Int) < (c.items.length : Int)) = false := decide_eq_false (by omega)
                go_wp2_with fail
                refine (lives_any _ (HK.out.keep HB.out)).mono ?_
                rintro e w9 ⟨rfl, hB⟩
                replace HB := Lib.hid (HB.out.trans (hB.mono HB.out.size))
                go_wp2_with fail
                go_ret
                exact ⟨rfl, HB.out⟩
end Go.Proofs.YtfpcgjgkbniofaaDoor
