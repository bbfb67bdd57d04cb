/- law11.bad: a catalog with an item twice. -/
import Derived.Test.YtfpcgjgkbniofaaGreatDoorGNet2
import Derived.Test.YtfpcgjgkbniofaaGreatDoorGV9
import Derived.Test.YtfpcgjgkbniofaaGreatDoorGGen
import Derived.Test.YtfpcgjgkbniofaaGreatDoorRegFork
set_option linter.unusedVariables false
set_option linter.unusedSimpArgs false
namespace Go.Proofs.YtfpcgjgkbniofaaGreatDoor
open Go.RowKit
attribute [local go_sem] Oper.semAt_some

def badC (c : Cat) : Cat := ⟨c.items ++ c.items.take 1, c.rules⟩
theorem GoodL.more {n m M K : Nat} {l : List Amt} (h : GoodL n M K l) (hnm : n ≤ m) : GoodL m M K l := ⟨h.sorted, fun a ha => by have := h.all a ha; omega, h.len⟩
theorem GoodR.more {n m : Nat} {r : Rul} (h : GoodR n r) (hnm : n ≤ m) : GoodR m r := ⟨h.take.more hnm, h.give.more hnm, h.back.more hnm, h.of1, h.of2, h.time, h.hasBack, h.spawn, h.player, h.within⟩
structure BadOk (c : Cat) : Prop where
  good : Good c
  named : Named c
  dup : ¬ c.items.Nodup
theorem badC_ok {c : Cat} (hf : Fine c) (h5 : c.items.length ≤ 5) : BadOk (badC c) := by
  have h1 := hf.good.some_
  have hl : (badC c).items.length = c.items.length + 1 := by unfold badC; simp; omega
  refine ⟨⟨by omega, by omega, hf.good.rules, fun r hr => (hf.good.each r hr).more (by omega)⟩, ⟨fun n hn => ?_, hf.named.2⟩, fun hd => ?_⟩
  · rcases List.mem_append.1 hn with h | h
    · exact hf.named.1 n h
    · exact hf.named.1 n (List.mem_of_mem_take h)
  · unfold badC at hd
    obtain ⟨x, l, hx⟩ : ∃ x l, c.items = x :: l := by
      cases hc : c.items with
      | nil => rw [hc] at h1; simp at h1
      | cons x l => exact ⟨x, l, rfl⟩
    rw [hx] at hd
    simp at hd
set_option maxHeartbeats 2000000 in
theorem check_bad (vi vr vs : Value) (c : Cat) (w : World) (hc : CatAt w vi vr c) (hf : BadOk c) (hK : Kinds w) :
    Calls Tryz.prog 30 #[catV vi vr, vs] w fun e w' => e = .returned (.int .i64 8) ∧ Below w.heap.size w w' := by
  obtain ⟨ai, ci, rfl, hi1, hi2⟩ := hc.items.form
  obtain ⟨ar, cr, rfl, hr1, hr2⟩ := hc.rules.form
  have HC := Lib.hid hc
  have HF := Lib.hid hf
  have HK := Lib.hid hK
  clear hc hf hK
  unfold catV
  obtain ⟨w1, hw1⟩ : ∃ w1, w.alloc (.cells #[.slice ai c.items.length ci, .slice ar c.rules.length cr, .slice none 0 0, .slice none 0 0] 28) = w1 := ⟨_, rfl⟩
  have HB : Hid (Below w.heap.size w w1) := Lib.hid (by rw [← hw1]; exact (Below.refl _ _).alloc (Nat.le_refl _) _)
  have HX : Hid (BoxC w1 w.heap.size (.slice ai c.items.length ci) (.slice ar c.rules.length cr)) := Lib.hid (by rw [← hw1]; exact BoxC.new _ _ _)
  have m0 := HX.out.c0
  have m1 := HX.out.c1
  have m2 := HX.out.c2
  have m3 := HX.out.c3
  go_enter Tryz.func30, Tryz.ntmps30
  go_wp2_with fail
  clear hw1 m0 m1 m2 m3
  refine (valid_bad _ _ c w1 (HC.out.below HB.out) HF.out.good HF.out.named HF.out.dup (HK.out.keep HB.out)).mono ?_
  rintro e w2 ⟨rfl, hB⟩
  replace HB := Lib.hid (HB.out.trans (hB.mono HB.out.size))
  clear hB
  go_wp2_with fail
  go_ret
  exact ⟨rfl, HB.out⟩
set_option maxHeartbeats 2000000 in
theorem net_bad (vi vr vs : Value) (c : Cat) (w : World) (hc : CatAt w vi vr c) (hf : BadOk c) (hK : Kinds w) :
    Calls Tryz.prog 10 #[catV vi vr, vs] w fun e w' => e = .returned (.tuple #[.slice none 0 0, .int .i64 8]) ∧ Below w.heap.size w w' := by
  obtain ⟨ai, ci, rfl, hi1, hi2⟩ := hc.items.form
  obtain ⟨ar, cr, rfl, hr1, hr2⟩ := hc.rules.form
  have HC := Lib.hid hc
  have HF := Lib.hid hf
  have HK := Lib.hid hK
  clear hc hf hK
  unfold catV
  obtain ⟨w1, hw1⟩ : ∃ w1, w.alloc (.cells #[.slice ai c.items.length ci, .slice ar c.rules.length cr, .slice none 0 0, .slice none 0 0] 28) = w1 := ⟨_, rfl⟩
  have HB : Hid (Below w.heap.size w w1) := Lib.hid (by rw [← hw1]; exact (Below.refl _ _).alloc (Nat.le_refl _) _)
  have HX : Hid (BoxC w1 w.heap.size (.slice ai c.items.length ci) (.slice ar c.rules.length cr)) := Lib.hid (by rw [← hw1]; exact BoxC.new _ _ _)
  have m0 := HX.out.c0
  have m1 := HX.out.c1
  have m2 := HX.out.c2
  have m3 := HX.out.c3
  go_enter Tryz.func10, Tryz.ntmps10
  go_wp2_with fail
  clear hw1 m0 m1 m2 m3
  refine (check_bad _ _ _ c w1 (HC.out.below HB.out) HF.out (HK.out.keep HB.out)).mono ?_
  rintro e w2 ⟨rfl, hB⟩
  replace HB := Lib.hid (HB.out.trans (hB.mono HB.out.size))
  clear hB
  go_wp2_with fail
  go_ret2
  exact ⟨rfl, HB.out⟩
set_option maxHeartbeats 2000000 in
theorem need_bad (vi vr vs : Value) (c : Cat) (w : World) (hc : CatAt w vi vr c) (hf : BadOk c) (hK : Kinds w) :
    Calls Tryz.prog 12 #[catV vi vr, vs] w fun e w' => e = .returned (.tuple #[.slice none 0 0, .int .i64 8]) ∧ Below w.heap.size w w' := by
  obtain ⟨ai, ci, rfl, hi1, hi2⟩ := hc.items.form
  obtain ⟨ar, cr, rfl, hr1, hr2⟩ := hc.rules.form
  have HC := Lib.hid hc
  have HF := Lib.hid hf
  have HK := Lib.hid hK
  clear hc hf hK
  unfold catV
  obtain ⟨w1, hw1⟩ : ∃ w1, w.alloc (.cells #[.slice ai c.items.length ci, .slice ar c.rules.length cr, .slice none 0 0, .slice none 0 0] 28) = w1 := ⟨_, rfl⟩
  have HB : Hid (Below w.heap.size w w1) := Lib.hid (by rw [← hw1]; exact (Below.refl _ _).alloc (Nat.le_refl _) _)
  have HX : Hid (BoxC w1 w.heap.size (.slice ai c.items.length ci) (.slice ar c.rules.length cr)) := Lib.hid (by rw [← hw1]; exact BoxC.new _ _ _)
  have m0 := HX.out.c0
  have m1 := HX.out.c1
  have m2 := HX.out.c2
  have m3 := HX.out.c3
  go_enter Tryz.func12, Tryz.ntmps12
  go_wp2_with fail
  clear hw1 m0 m1 m2 m3
  refine (check_bad _ _ _ c w1 (HC.out.below HB.out) HF.out (HK.out.keep HB.out)).mono ?_
  rintro e w2 ⟨rfl, hB⟩
  replace HB := Lib.hid (HB.out.trans (hB.mono HB.out.size))
  clear hB
  go_wp2_with fail
  go_ret2
  exact ⟨rfl, HB.out⟩

theorem take1 (l : List Tx) (h : 1 ≤ l.length) : l.take 1 = [l[0]'(by omega)] := by
  cases l with
  | nil => simp at h
  | cons x l => rfl
theorem items_len (l : List Tx) : (l.flatMap itmC).length = l.length * 7 := by
  induction l with
  | nil => rfl
  | cons x l ih => rw [List.flatMap_cons, List.length_append, ih, List.length_cons]; simp [itmC]; omega
theorem items_one (l : List Tx) : ∀ u ∈ l.flatMap itmC, u.oneCell' = true := by
  intro u hu
  obtain ⟨t, _, hm⟩ := List.mem_flatMap.1 hu
  simp only [itmC, zv, List.mem_cons, List.not_mem_nil, or_false] at hm
  rcases hm with rfl | rfl | rfl | rfl | rfl | rfl | rfl <;> rfl
theorem items_cells {w : World} {g n cap : Nat} {l : List Tx} (h : ItemsAt w (.slice (some ⟨g, 0, none⟩) n cap) l) (hn : n = l.length) : ∀ q u, (l.flatMap itmC)[q]? = some u → w.cell? ((⟨g, 0, none⟩ : Addr).add q) = some u := by
  intro q u hu
  have hq : q < l.length * 7 := by
    rw [← items_len]
    rcases Nat.lt_or_ge q (l.flatMap itmC).length with h1 | h1
    · exact h1
    · rw [List.getElem?_eq_none h1] at hu; cases hu
  obtain ⟨b, cap', cs, hv, hb, hcs, _, hc⟩ := SliceOf.at_ h (q / 7) (by omega)
  subst hn
  injection hv with e1 e2 e3
  injection e1 with e1
  injection e1 with e1
  subst e1 hcs
  have hadd : (⟨g, 0, none⟩ : Addr).add q = ⟨g, q, none⟩ := by unfold Addr.add; split <;> simp_all
  have h1 := hc (q % 7) (by omega)
  have h2 := flatten_at (l.map itmC) 7 (q / 7) (q % 7) (by simp [itmC]) (by simp; omega) (by omega)
  rw [← List.flatMap_def, show q / 7 * 7 + q % 7 = q by omega, hu] at h2
  rw [hadd]
  rw [show q / 7 * 7 + q % 7 = q by omega] at h1
  rw [h1, h2, List.getElem_map]
set_option maxRecDepth 100000 in
set_option maxHeartbeats 4000000 in
theorem bad_any (vi vr : Value) (c : Cat) (w : World) (hc : CatAt w vi vr c) (h1 : 1 ≤ c.items.length) (h6 : c.items.length ≤ 6) :
    Calls Tryz.prog 15 #[catV vi vr] w fun e w' => (∃ vi', e = .returned (catV vi' vr) ∧ CatAt w' vi' vr (badC c)) ∧ Below w.heap.size w w' := by
  obtain ⟨bi, ci, cs0, hv, hbi, rfl, _, hcc⟩ := SliceOf.at_ hc.items 0 (by omega)
  subst hv
  obtain ⟨ar, cr, rfl, hr1, hr2⟩ := hc.rules.form
  have hci : c.items.length ≤ ci ∧ ci ≤ 9223372036854775807 := by
    obtain ⟨a', c', hv, h1, h2⟩ := hc.items.form
    injection hv with _ _ e3
    omega
  have HC := Lib.hid hc
  have HBD : Hid (badC c = ⟨c.items ++ [c.items[0]'(by omega)], c.rules⟩) := Lib.hid (by
    unfold badC
    rw [take1 c.items h1])
  have HCC := Lib.hid (fun i (hi : i < 7) => by have := hcc i hi; rwa [Nat.zero_mul, Nat.zero_add] at this)
  obtain ⟨x, hx⟩ : ∃ x, c.items[0]'(by omega) = x := ⟨_, rfl⟩
  rw [hx] at HCC HBD
  have hfl := items_len c.items
  have h1' : 0 < c.items.length := by omega
  have h1i : (0 : Int) < (c.items.length : Int) := by omega
  obtain ⟨w1, hw1⟩ : ∃ w1, (w.alloc (.cells #[.slice (some ⟨bi, 0, none⟩) c.items.length ci, .slice ar c.rules.length cr, .slice none 0 0, .slice none 0 0] 28)).alloc (.cells #[.slice none 0 0, .slice none 0 0, .slice none 0 0, .slice none 0 0] 28) = w1 := ⟨_, rfl⟩
  have HB : Hid (Below w.heap.size w w1) := Lib.hid (by rw [← hw1]; exact ((Below.refl _ _).alloc (Nat.le_refl _) _).alloc (by simp) _)
  have HX : Hid (BlkC w1 w.heap.size 28 [.slice (some ⟨bi, 0, none⟩) c.items.length ci, .slice ar c.rules.length cr, .slice none 0 0, .slice none 0 0]) := Lib.hid (by rw [← hw1]; exact (BlkC.new w 28 [.slice (some ⟨bi, 0, none⟩) c.items.length ci, .slice ar c.rules.length cr, .slice none 0 0, .slice none 0 0]).alloc _)
  have HR : Hid (BlkC w1 (w.heap.size + 1) 28 [.slice none 0 0, .slice none 0 0, .slice none 0 0, .slice none 0 0]) := Lib.hid (by
    rw [← hw1]
    have h9 := BlkC.new (w.alloc (.cells #[.slice (some ⟨bi, 0, none⟩) c.items.length ci, .slice ar c.rules.length cr, .slice none 0 0, .slice none 0 0] 28)) 28 [.slice none 0 0, .slice none 0 0, .slice none 0 0, .slice none 0 0]
    simpa using h9)
  have HI := Lib.hid (hc.items.below HB.out)
  have HC1 := Lib.hid (hc.below HB.out)
  have hcs : ∀ W, Below w1.heap.size w1 W → W.cell? ⟨bi, 0, none⟩ = some (.string ⟨x.toArray⟩) ∧ W.cell? ⟨bi, 1, none⟩ = some (.bool false) ∧ W.cell? ⟨bi, 2, none⟩ = some (.bool false) ∧ W.cell? ⟨bi, 3, none⟩ = some (.bool false) ∧ W.cell? ⟨bi, 4, none⟩ = some (.int .i64 0) ∧ W.cell? ⟨bi, 5, none⟩ = some (.int .i64 0) ∧ W.cell? ⟨bi, 6, none⟩ = some (.int .i64 0) := by
    intro W hW
    have hWw : Below w.heap.size w W := HB.out.trans (hW.mono HB.out.size)
    have key : ∀ i, i < 7 → W.cell? ⟨bi, i, none⟩ = (itmC x)[i]? := fun i hi => (hWw.cell (p := ⟨bi, i, none⟩) hbi).trans (HCC.out i hi)
    exact ⟨key 0 (by omega), key 1 (by omega), key 2 (by omega), key 3 (by omega), key 4 (by omega), key 5 (by omega), key 6 (by omega)⟩
  clear hc hcc hx
  unfold catV
  go_enter Tryz.func15, Tryz.ntmps15
  go_wp2_with fail
  clear hw1
  obtain ⟨wd, hwd⟩ : ∃ X, w1.drew = X := ⟨_, rfl⟩
  have HBW : Hid (Below w1.heap.size w1 wd) := Lib.hid (by rw [← hwd]; exact (Below.refl _ _).drew)
  refine startK 11 (fun W => W.cell? ⟨w.heap.size, 0, none⟩ = some (.slice (some ⟨bi, 0, none⟩) c.items.length ci) ∧ W.cell? ⟨bi, 0, none⟩ = some (.string ⟨x.toArray⟩) ∧ W.cell? ⟨bi, 1, none⟩ = some (.bool false) ∧ W.cell? ⟨bi, 2, none⟩ = some (.bool false) ∧ W.cell? ⟨bi, 3, none⟩ = some (.bool false) ∧ W.cell? ⟨bi, 4, none⟩ = some (.int .i64 0) ∧ W.cell? ⟨bi, 5, none⟩ = some (.int .i64 0) ∧ W.cell? ⟨bi, 6, none⟩ = some (.int .i64 0)) (by kernel_rfl) (by rw [hwd]; exact ⟨(HX.out.below HBW.out HX.out.lt).cell 0, hcs _ HBW.out⟩) (fun hHeld => ?_)
  rw [hwd] at hHeld ⊢
  clear hwd
  refine takeK 1 4 (v := ?_) rfl rfl (by kernel_rfl) (by kernel_rfl) (by kernel_rfl) (by kernel_rfl) (fun _ _ _ h => h) (by rfl) ?_ (by assumption) ?_
  rotate_left
  · (intro w hSw; go_simp; first | done | with_reducible rfl)
  simp only [List.setIfInBounds_toArray, List.set_cons_zero, List.set_cons_succ]
  refine takeK 2 5 (v := ?_) rfl rfl (by kernel_rfl) (by kernel_rfl) (by kernel_rfl) (by kernel_rfl) (fun _ _ _ h => h) (by rfl) ?_ (by assumption) ?_
  rotate_left
  · (intro w hSw; go_simp; first | done | with_reducible rfl)
  simp only [List.setIfInBounds_toArray, List.set_cons_zero, List.set_cons_succ]
  refine takeK 4 7 (v := ?_) rfl rfl (by kernel_rfl) (by kernel_rfl) (by kernel_rfl) (by kernel_rfl) (fun _ _ _ h => h) (by rfl) ?_ (by assumption) ?_
  rotate_left
  · (intro w hSw; go_simp; first | done | with_reducible rfl)
  simp only [List.setIfInBounds_toArray, List.set_cons_zero, List.set_cons_succ]
  refine takeK 5 8 (v := ?_) rfl rfl (by kernel_rfl) (by kernel_rfl) (by kernel_rfl) (by kernel_rfl) (fun _ _ _ h => h) (by rfl) ?_ (by assumption) ?_
  rotate_left
  · (intro w hSw; go_simp; first | done | with_reducible rfl)
  simp only [List.setIfInBounds_toArray, List.set_cons_zero, List.set_cons_succ]
  refine takeK 6 9 (v := ?_) rfl rfl (by kernel_rfl) (by kernel_rfl) (by kernel_rfl) (by kernel_rfl) (fun _ _ _ h => h) (by rfl) ?_ (by assumption) ?_
  rotate_left
  · (intro w hSw; go_simp; first | done | with_reducible rfl)
  simp only [List.setIfInBounds_toArray, List.set_cons_zero, List.set_cons_succ]
  refine takeK 7 10 (v := ?_) rfl rfl (by kernel_rfl) (by kernel_rfl) (by kernel_rfl) (by kernel_rfl) (fun _ _ _ h => h) (by rfl) ?_ (by assumption) ?_
  rotate_left
  · (intro w hSw; go_simp; first | done | with_reducible rfl)
  simp only [List.setIfInBounds_toArray, List.set_cons_zero, List.set_cons_succ]
  refine forkK [0, 8] (by kernel_rfl) (by simp) ⟨forkOne 0 rfl (fun K hK => ?_), forkOne 8 rfl (fun K hK => ?_), trivial⟩
  · skip
    go_simp
    obtain ⟨wk1, hw2⟩ : ∃ X, wd.alloc (.cells #[] 59) = X := ⟨_, rfl⟩
    have hB : Below wd.heap.size wd wk1 := by rw [← hw2]; exact (Below.refl _ _).alloc (Nat.le_refl _) _
    obtain ⟨g0, hG⟩ : ∃ g, wd.heap.size = g := ⟨_, rfl⟩
    have HO : Hid (wk1.ownsRow w1.heap.size 59 7 (.slice (some ⟨g0, 0, none⟩) 0 0) 0 []) := Lib.hid (by rw [← hw2, ← hG]; exact World.ownsRow_made wd #[] 0 HBW.out.size (by unfold maxLen; omega) (by simp))
    replace HBW := Lib.hid (HBW.out.trans (hB.mono HBW.out.size))
    rw [hw2, hG]
    have hg0 : g0 < wk1.heap.size := by rw [← hw2, ← hG]; simp
    clear hB hw2 hG hHeld
    go_wp2_with fail
    refine hK.out _ _ (⟨(HX.out.below HBW.out HX.out.lt).cell 0, hcs _ HBW.out⟩) (fun hHeld => ?_)
    clear hK K
    try simp only [Act.put, List.setIfInBounds_toArray, List.set_cons_zero, List.set_cons_succ]
    refine forkK [3, 8] (by kernel_rfl) (by simp) ⟨forkOne 3 rfl (fun K hK => ?_), forkOne 8 rfl (fun K hK => ?_), trivial⟩
    · skip
      refine step_appC (W0 := w1) (B := w1.heap.size) elemItem rfl 6 rfl _ _ rfl (.slice (some ⟨g0, 0, none⟩) 0 0) 0 [] rfl ⟨bi, 0, none⟩ c.items.length ci (c.items.flatMap itmC) rfl hfl (items_cells (HI.out.below HBW.out) rfl) (items_one c.items) (by omega) HO.out HBW.out HBW.out.size (by omega) (by omega) ?_
      intro g3 cap3 wk2 HO3 HB3 HOn3 hcap3 hcap3b
      clear hHeld HOn3 HO HBW
      have HO := HO3
      rw [Nat.zero_add, List.nil_append] at HO
      rw [Nat.zero_add] at hcap3b
      have HBW := HB3
      clear HO3 HB3
      simp only [List.setIfInBounds_toArray, List.set_cons_zero, List.set_cons_succ, Nat.zero_add]
      go_wp2_with fail
      refine hK.out _ _ (⟨(HX.out.below HBW.out HX.out.lt).cell 0, hcs _ HBW.out⟩) (fun hHeld => ?_)
      clear hK K
      try simp only [Act.put, List.setIfInBounds_toArray, List.set_cons_zero, List.set_cons_succ]
      refine stepK 8 (by kernel_rfl) rfl (fun K hK => ?_)
      go_simp
      obtain ⟨wk3, hw2⟩ : ∃ X, wk2.alloc (.cells #[.string ⟨x.toArray⟩, .bool false, .bool false, .bool false, .int .i64 0, .int .i64 0, .int .i64 0] 59) = X := ⟨_, rfl⟩
      have hB : Below wk2.heap.size wk2 wk3 := by rw [← hw2]; exact (Below.refl _ _).alloc (Nat.le_refl _) _
      obtain ⟨g8, hG⟩ : ∃ g, wk2.heap.size = g := ⟨_, rfl⟩
      have HK8 : Hid (BlkC wk3 g8 59 (itmC x)) := Lib.hid (by rw [← hw2, ← hG]; exact BlkC.new _ _ _)
      replace HBW := Lib.hid (HBW.out.trans (hB.mono HBW.out.size))
      rw [hw2, hG]
      replace HO := Lib.hid ((Only.of_below (S := fun _ => False) hB).own HO.out (fun _ _ h => h))
      clear hB hw2 hG hHeld
      go_wp2_with fail
      refine hK.out _ _ (⟨(HX.out.below HBW.out HX.out.lt).cell 0, hcs _ HBW.out⟩) (fun hHeld => ?_)
      clear hK K
      try simp only [Act.put, List.setIfInBounds_toArray, List.set_cons_zero, List.set_cons_succ]
      have HNW : Hid (∀ q u, (itmC x)[q]? = some u → wk3.cell? ((⟨g8, 0, none⟩ : Addr).add q) = some u) := Lib.hid (fun q u hu => by
        have hadd : (⟨g8, 0, none⟩ : Addr).add q = ⟨g8, q, none⟩ := by unfold Addr.add; split <;> simp_all
        rw [hadd, HK8.out.cell]
        exact hu)
      refine stepK 9 (by kernel_rfl) rfl (fun K hK => ?_)
      refine step_appC (W0 := w1) (B := w1.heap.size) elemItem rfl 12 rfl _ _ rfl (.slice (some ⟨g3, 0, none⟩) c.items.length cap3) c.items.length (c.items.flatMap itmC) rfl ⟨g8, 0, none⟩ 1 1 (itmC x) rfl (by simp [itmC]) HNW.out (by simp [itmC, zv, Value.oneCell']) (by omega) HO.out HBW.out HBW.out.size (by omega) (by omega) ?_
      intro g9 cap9 w9 HO9 HB9 HOn9 hcap9 hcap9b
      clear hHeld HOn9 HNW
      simp only [List.setIfInBounds_toArray, List.set_cons_zero, List.set_cons_succ]
      go_wp2_with fail
      refine hK.out _ _ (⟨(HX.out.below HB9.out HX.out.lt).cell 0, hcs _ HB9.out⟩) (fun hHeld => ?_)
      clear hK K
      try simp only [Act.put, List.setIfInBounds_toArray, List.set_cons_zero, List.set_cons_succ]
      refine takeK 10 13 (v := ?_) rfl rfl (by kernel_rfl) (by kernel_rfl) (by kernel_rfl) (by kernel_rfl) (fun _ _ _ h => h) (by rfl) ?_ (by assumption) ?_
      rotate_left
      · (intro w hSw; go_simp; first | done | with_reducible rfl)
      simp only [List.setIfInBounds_toArray, List.set_cons_zero, List.set_cons_succ]
      have hx9 := HX.out.below HB9.out HX.out.lt
      have hxf := hx9.frozen 0
      have hxc := hx9.cell 0
      simp only [List.getElem?_cons_zero] at hxc
      refine lastK (by kernel_rfl) rfl (by kernel_rfl) (fun K hK => ?_)
      go_simp
      refine hK.out _ _ ?_
      clear hK K
      try simp only [Act.put, List.setIfInBounds_toArray, List.set_cons_zero, List.set_cons_succ]
      clear hHeld hxf hxc
      have HIT9 : Hid (ItemsAt w9 (.slice (some ⟨g9, 0, none⟩) (c.items.length + 1) cap9) (c.items ++ [x])) := Lib.hid (by
        have h9 := HO9.out
        exact items_of_own (base := w1.heap.size) (e := 59) (by rw [List.length_append, List.flatMap_append]; simpa using h9))
      have hr9 := HR.out.below HB9.out HR.out.lt
      have z0 := hx9.cell 0
      have z1 := hx9.cell 1
      have z2 := hx9.cell 2
      have z3 := hx9.cell 3
      have y0 := hr9.cell 0
      have y1 := hr9.cell 1
      have y2 := hr9.cell 2
      have y3 := hr9.cell 3
      have yf0 := hr9.frozen 0
      have yf1 := hr9.frozen 1
      have yf2 := hr9.frozen 2
      have yf3 := hr9.frozen 3
      simp only [List.getElem?_cons_succ, List.getElem?_cons_zero] at z0 z1 z2 z3 y0 y1 y2 y3
      go_wp2_with fail
      obtain ⟨vz, hvz⟩ : ∃ V, Value.slice (some ⟨g9, 0, none⟩) (c.items.length + 1) cap9 = V := ⟨_, rfl⟩
      rw [hvz] at HIT9 ⊢
      have HRZ := (((((hr9.far (p := ⟨w.heap.size, 0, none⟩) (show w.heap.size + 1 ≠ w.heap.size by omega) vz).set 0 vz).set 1 (.slice ar c.rules.length cr)).set 2 (.slice none 0 0)).set 3 (.slice none 0 0))
      have HOZ : Only (fun b => b = w.heap.size ∨ b = w.heap.size + 1) w9 (((((w9.setCell ⟨w.heap.size, 0, none⟩ vz).setCell ⟨w.heap.size + 1, 0, none⟩ vz).setCell ⟨w.heap.size + 1, 1, none⟩ (.slice ar c.rules.length cr)).setCell ⟨w.heap.size + 1, 2, none⟩ (.slice none 0 0)).setCell ⟨w.heap.size + 1, 3, none⟩ (.slice none 0 0)) :=
        (((((Only.refl _ w9).set (p := ⟨w.heap.size, 0, none⟩) (Or.inl rfl) vz).set (p := ⟨w.heap.size + 1, 0, none⟩) (Or.inr rfl) vz).set (p := ⟨w.heap.size + 1, 1, none⟩) (Or.inr rfl) _).set (p := ⟨w.heap.size + 1, 2, none⟩) (Or.inr rfl) _).set (p := ⟨w.heap.size + 1, 3, none⟩) (Or.inr rfl) _
      obtain ⟨wz, hwz⟩ : ∃ W, (((((w9.setCell ⟨w.heap.size, 0, none⟩ vz).setCell ⟨w.heap.size + 1, 0, none⟩ vz).setCell ⟨w.heap.size + 1, 1, none⟩ (.slice ar c.rules.length cr)).setCell ⟨w.heap.size + 1, 2, none⟩ (.slice none 0 0)).setCell ⟨w.heap.size + 1, 3, none⟩ (.slice none 0 0)) = W := ⟨_, rfl⟩
      rw [hwz] at HRZ HOZ ⊢
      have HB9z := HB.out.trans (HB9.out.mono HB.out.size)
      have HBZ : Below w.heap.size w wz := HOZ.below HB9z HB9z.size (fun k hk => by rcases hk with hk | hk <;> omega)
      have r0 := HRZ.cell 0
      have r1 := HRZ.cell 1
      have r2 := HRZ.cell 2
      have r3 := HRZ.cell 3
      simp only [List.set_cons_zero, List.set_cons_succ, List.getElem?_cons_succ, List.getElem?_cons_zero] at r0 r1 r2 r3
      have HITZ : ItemsAt wz vz (c.items ++ [x]) := SliceOf.onlyS HIT9.out HOZ (fun b hb y cs hc => ⟨2, by omega, by rw [hc]; rcases hb with rfl | rfl <;> simp [z2, y2, itmC]⟩) (fun _ _ h => h)
      have HCZ : CatAt wz vz (.slice ar c.rules.length cr) (badC c) := by
        rw [HBD.out]
        exact ⟨HITZ, HC.out.rules.below HBZ⟩
      exact bodyPost_ret (v := catV vz (.slice ar c.rules.length cr)) (by simp [results, Tryz.results15, go_sem, catV, r0, r1, r2, r3]) rfl ⟨⟨_, rfl, HCZ⟩, HBZ⟩
    · skip
      go_simp
      obtain ⟨wk2, hw2⟩ : ∃ X, wk1.alloc (.cells #[.string ⟨x.toArray⟩, .bool false, .bool false, .bool false, .int .i64 0, .int .i64 0, .int .i64 0] 59) = X := ⟨_, rfl⟩
      have hB : Below wk1.heap.size wk1 wk2 := by rw [← hw2]; exact (Below.refl _ _).alloc (Nat.le_refl _) _
      obtain ⟨g8, hG⟩ : ∃ g, wk1.heap.size = g := ⟨_, rfl⟩
      have HK8 : Hid (BlkC wk2 g8 59 (itmC x)) := Lib.hid (by rw [← hw2, ← hG]; exact BlkC.new _ _ _)
      replace HBW := Lib.hid (HBW.out.trans (hB.mono HBW.out.size))
      rw [hw2, hG]
      have hne : g8 ≠ g0 := by omega
      replace HO := Lib.hid ((Only.of_below (S := fun _ => False) hB).own HO.out (fun _ _ h => h))
      clear hB hw2 hG hHeld
      go_wp2_with fail
      refine hK.out _ _ (⟨(HX.out.below HBW.out HX.out.lt).cell 0, hcs _ HBW.out⟩) (fun hHeld => ?_)
      clear hK K
      try simp only [Act.put, List.setIfInBounds_toArray, List.set_cons_zero, List.set_cons_succ]
      refine stepK 3 (by kernel_rfl) rfl (fun K hK => ?_)
      refine step_appC (W0 := w1) (B := w1.heap.size) elemItem rfl 6 rfl _ _ rfl (.slice (some ⟨g0, 0, none⟩) 0 0) 0 [] rfl ⟨bi, 0, none⟩ c.items.length ci (c.items.flatMap itmC) rfl hfl (items_cells (HI.out.below HBW.out) rfl) (items_one c.items) (by omega) HO.out HBW.out HBW.out.size (by omega) (by omega) ?_
      intro g3 cap3 wk3 HO3 HB3 HOn3 hcap3 hcap3b
      replace HK8 := Lib.hid (HK8.out.only HOn3.out (fun hs => by have := hs; simp [Value.ownBlock] at this; exact hne this.symm))
      clear hHeld HOn3 HO HBW
      have HO := HO3
      rw [Nat.zero_add, List.nil_append] at HO
      rw [Nat.zero_add] at hcap3b
      have HBW := HB3
      clear HO3 HB3
      simp only [List.setIfInBounds_toArray, List.set_cons_zero, List.set_cons_succ, Nat.zero_add]
      go_wp2_with fail
      refine hK.out _ _ (⟨(HX.out.below HBW.out HX.out.lt).cell 0, hcs _ HBW.out⟩) (fun hHeld => ?_)
      clear hK K
      try simp only [Act.put, List.setIfInBounds_toArray, List.set_cons_zero, List.set_cons_succ]
      have HNW : Hid (∀ q u, (itmC x)[q]? = some u → wk3.cell? ((⟨g8, 0, none⟩ : Addr).add q) = some u) := Lib.hid (fun q u hu => by
        have hadd : (⟨g8, 0, none⟩ : Addr).add q = ⟨g8, q, none⟩ := by unfold Addr.add; split <;> simp_all
        rw [hadd, HK8.out.cell]
        exact hu)
      refine stepK 9 (by kernel_rfl) rfl (fun K hK => ?_)
      refine step_appC (W0 := w1) (B := w1.heap.size) elemItem rfl 12 rfl _ _ rfl (.slice (some ⟨g3, 0, none⟩) c.items.length cap3) c.items.length (c.items.flatMap itmC) rfl ⟨g8, 0, none⟩ 1 1 (itmC x) rfl (by simp [itmC]) HNW.out (by simp [itmC, zv, Value.oneCell']) (by omega) HO.out HBW.out HBW.out.size (by omega) (by omega) ?_
      intro g9 cap9 w9 HO9 HB9 HOn9 hcap9 hcap9b
      clear hHeld HOn9 HNW
      simp only [List.setIfInBounds_toArray, List.set_cons_zero, List.set_cons_succ]
      go_wp2_with fail
      refine hK.out _ _ (⟨(HX.out.below HB9.out HX.out.lt).cell 0, hcs _ HB9.out⟩) (fun hHeld => ?_)
      clear hK K
      try simp only [Act.put, List.setIfInBounds_toArray, List.set_cons_zero, List.set_cons_succ]
      refine takeK 10 13 (v := ?_) rfl rfl (by kernel_rfl) (by kernel_rfl) (by kernel_rfl) (by kernel_rfl) (fun _ _ _ h => h) (by rfl) ?_ (by assumption) ?_
      rotate_left
      · (intro w hSw; go_simp; first | done | with_reducible rfl)
      simp only [List.setIfInBounds_toArray, List.set_cons_zero, List.set_cons_succ]
      have hx9 := HX.out.below HB9.out HX.out.lt
      have hxf := hx9.frozen 0
      have hxc := hx9.cell 0
      simp only [List.getElem?_cons_zero] at hxc
      refine lastK (by kernel_rfl) rfl (by kernel_rfl) (fun K hK => ?_)
      go_simp
      refine hK.out _ _ ?_
      clear hK K
      try simp only [Act.put, List.setIfInBounds_toArray, List.set_cons_zero, List.set_cons_succ]
      clear hHeld hxf hxc
      have HIT9 : Hid (ItemsAt w9 (.slice (some ⟨g9, 0, none⟩) (c.items.length + 1) cap9) (c.items ++ [x])) := Lib.hid (by
        have h9 := HO9.out
        exact items_of_own (base := w1.heap.size) (e := 59) (by rw [List.length_append, List.flatMap_append]; simpa using h9))
      have hr9 := HR.out.below HB9.out HR.out.lt
      have z0 := hx9.cell 0
      have z1 := hx9.cell 1
      have z2 := hx9.cell 2
      have z3 := hx9.cell 3
      have y0 := hr9.cell 0
      have y1 := hr9.cell 1
      have y2 := hr9.cell 2
      have y3 := hr9.cell 3
      have yf0 := hr9.frozen 0
      have yf1 := hr9.frozen 1
      have yf2 := hr9.frozen 2
      have yf3 := hr9.frozen 3
      simp only [List.getElem?_cons_succ, List.getElem?_cons_zero] at z0 z1 z2 z3 y0 y1 y2 y3
      go_wp2_with fail
      obtain ⟨vz, hvz⟩ : ∃ V, Value.slice (some ⟨g9, 0, none⟩) (c.items.length + 1) cap9 = V := ⟨_, rfl⟩
      rw [hvz] at HIT9 ⊢
      have HRZ := (((((hr9.far (p := ⟨w.heap.size, 0, none⟩) (show w.heap.size + 1 ≠ w.heap.size by omega) vz).set 0 vz).set 1 (.slice ar c.rules.length cr)).set 2 (.slice none 0 0)).set 3 (.slice none 0 0))
      have HOZ : Only (fun b => b = w.heap.size ∨ b = w.heap.size + 1) w9 (((((w9.setCell ⟨w.heap.size, 0, none⟩ vz).setCell ⟨w.heap.size + 1, 0, none⟩ vz).setCell ⟨w.heap.size + 1, 1, none⟩ (.slice ar c.rules.length cr)).setCell ⟨w.heap.size + 1, 2, none⟩ (.slice none 0 0)).setCell ⟨w.heap.size + 1, 3, none⟩ (.slice none 0 0)) :=
        (((((Only.refl _ w9).set (p := ⟨w.heap.size, 0, none⟩) (Or.inl rfl) vz).set (p := ⟨w.heap.size + 1, 0, none⟩) (Or.inr rfl) vz).set (p := ⟨w.heap.size + 1, 1, none⟩) (Or.inr rfl) _).set (p := ⟨w.heap.size + 1, 2, none⟩) (Or.inr rfl) _).set (p := ⟨w.heap.size + 1, 3, none⟩) (Or.inr rfl) _
      obtain ⟨wz, hwz⟩ : ∃ W, (((((w9.setCell ⟨w.heap.size, 0, none⟩ vz).setCell ⟨w.heap.size + 1, 0, none⟩ vz).setCell ⟨w.heap.size + 1, 1, none⟩ (.slice ar c.rules.length cr)).setCell ⟨w.heap.size + 1, 2, none⟩ (.slice none 0 0)).setCell ⟨w.heap.size + 1, 3, none⟩ (.slice none 0 0)) = W := ⟨_, rfl⟩
      rw [hwz] at HRZ HOZ ⊢
      have HB9z := HB.out.trans (HB9.out.mono HB.out.size)
      have HBZ : Below w.heap.size w wz := HOZ.below HB9z HB9z.size (fun k hk => by rcases hk with hk | hk <;> omega)
      have r0 := HRZ.cell 0
      have r1 := HRZ.cell 1
      have r2 := HRZ.cell 2
      have r3 := HRZ.cell 3
      simp only [List.set_cons_zero, List.set_cons_succ, List.getElem?_cons_succ, List.getElem?_cons_zero] at r0 r1 r2 r3
      have HITZ : ItemsAt wz vz (c.items ++ [x]) := SliceOf.onlyS HIT9.out HOZ (fun b hb y cs hc => ⟨2, by omega, by rw [hc]; rcases hb with rfl | rfl <;> simp [z2, y2, itmC]⟩) (fun _ _ h => h)
      have HCZ : CatAt wz vz (.slice ar c.rules.length cr) (badC c) := by
        rw [HBD.out]
        exact ⟨HITZ, HC.out.rules.below HBZ⟩
      exact bodyPost_ret (v := catV vz (.slice ar c.rules.length cr)) (by simp [results, Tryz.results15, go_sem, catV, r0, r1, r2, r3]) rfl ⟨⟨_, rfl, HCZ⟩, HBZ⟩
  · skip
    go_simp
    obtain ⟨wk1, hw2⟩ : ∃ X, wd.alloc (.cells #[.string ⟨x.toArray⟩, .bool false, .bool false, .bool false, .int .i64 0, .int .i64 0, .int .i64 0] 59) = X := ⟨_, rfl⟩
    have hB : Below wd.heap.size wd wk1 := by rw [← hw2]; exact (Below.refl _ _).alloc (Nat.le_refl _) _
    obtain ⟨g8, hG⟩ : ∃ g, wd.heap.size = g := ⟨_, rfl⟩
    have HK8 : Hid (BlkC wk1 g8 59 (itmC x)) := Lib.hid (by rw [← hw2, ← hG]; exact BlkC.new _ _ _)
    replace HBW := Lib.hid (HBW.out.trans (hB.mono HBW.out.size))
    rw [hw2, hG]
    clear hB hw2 hG hHeld
    go_wp2_with fail
    refine hK.out _ _ (⟨(HX.out.below HBW.out HX.out.lt).cell 0, hcs _ HBW.out⟩) (fun hHeld => ?_)
    clear hK K
    try simp only [Act.put, List.setIfInBounds_toArray, List.set_cons_zero, List.set_cons_succ]
    refine stepK 0 (by kernel_rfl) rfl (fun K hK => ?_)
    go_simp
    obtain ⟨wk2, hw2⟩ : ∃ X, wk1.alloc (.cells #[] 59) = X := ⟨_, rfl⟩
    have hB : Below wk1.heap.size wk1 wk2 := by rw [← hw2]; exact (Below.refl _ _).alloc (Nat.le_refl _) _
    obtain ⟨g0, hG⟩ : ∃ g, wk1.heap.size = g := ⟨_, rfl⟩
    have HO : Hid (wk2.ownsRow w1.heap.size 59 7 (.slice (some ⟨g0, 0, none⟩) 0 0) 0 []) := Lib.hid (by rw [← hw2, ← hG]; exact World.ownsRow_made wk1 #[] 0 HBW.out.size (by unfold maxLen; omega) (by simp))
    replace HBW := Lib.hid (HBW.out.trans (hB.mono HBW.out.size))
    rw [hw2, hG]
    have hg0 : g0 < wk2.heap.size := by rw [← hw2, ← hG]; simp
    have hne : g8 ≠ g0 := by have := HK8.out.lt; omega
    replace HK8 := Lib.hid (HK8.out.below hB HK8.out.lt)
    clear hB hw2 hG hHeld
    go_wp2_with fail
    refine hK.out _ _ (⟨(HX.out.below HBW.out HX.out.lt).cell 0, hcs _ HBW.out⟩) (fun hHeld => ?_)
    clear hK K
    try simp only [Act.put, List.setIfInBounds_toArray, List.set_cons_zero, List.set_cons_succ]
    refine stepK 3 (by kernel_rfl) rfl (fun K hK => ?_)
    refine step_appC (W0 := w1) (B := w1.heap.size) elemItem rfl 6 rfl _ _ rfl (.slice (some ⟨g0, 0, none⟩) 0 0) 0 [] rfl ⟨bi, 0, none⟩ c.items.length ci (c.items.flatMap itmC) rfl hfl (items_cells (HI.out.below HBW.out) rfl) (items_one c.items) (by omega) HO.out HBW.out HBW.out.size (by omega) (by omega) ?_
    intro g3 cap3 wk3 HO3 HB3 HOn3 hcap3 hcap3b
    replace HK8 := Lib.hid (HK8.out.only HOn3.out (fun hs => by have := hs; simp [Value.ownBlock] at this; exact hne this.symm))
    clear hHeld HOn3 HO HBW
    have HO := HO3
    rw [Nat.zero_add, List.nil_append] at HO
    rw [Nat.zero_add] at hcap3b
    have HBW := HB3
    clear HO3 HB3
    simp only [List.setIfInBounds_toArray, List.set_cons_zero, List.set_cons_succ, Nat.zero_add]
    go_wp2_with fail
    refine hK.out _ _ (⟨(HX.out.below HBW.out HX.out.lt).cell 0, hcs _ HBW.out⟩) (fun hHeld => ?_)
    clear hK K
    try simp only [Act.put, List.setIfInBounds_toArray, List.set_cons_zero, List.set_cons_succ]
    have HNW : Hid (∀ q u, (itmC x)[q]? = some u → wk3.cell? ((⟨g8, 0, none⟩ : Addr).add q) = some u) := Lib.hid (fun q u hu => by
      have hadd : (⟨g8, 0, none⟩ : Addr).add q = ⟨g8, q, none⟩ := by unfold Addr.add; split <;> simp_all
      rw [hadd, HK8.out.cell]
      exact hu)
    refine stepK 9 (by kernel_rfl) rfl (fun K hK => ?_)
    refine step_appC (W0 := w1) (B := w1.heap.size) elemItem rfl 12 rfl _ _ rfl (.slice (some ⟨g3, 0, none⟩) c.items.length cap3) c.items.length (c.items.flatMap itmC) rfl ⟨g8, 0, none⟩ 1 1 (itmC x) rfl (by simp [itmC]) HNW.out (by simp [itmC, zv, Value.oneCell']) (by omega) HO.out HBW.out HBW.out.size (by omega) (by omega) ?_
    intro g9 cap9 w9 HO9 HB9 HOn9 hcap9 hcap9b
    clear hHeld HOn9 HNW
    simp only [List.setIfInBounds_toArray, List.set_cons_zero, List.set_cons_succ]
    go_wp2_with fail
    refine hK.out _ _ (⟨(HX.out.below HB9.out HX.out.lt).cell 0, hcs _ HB9.out⟩) (fun hHeld => ?_)
    clear hK K
    try simp only [Act.put, List.setIfInBounds_toArray, List.set_cons_zero, List.set_cons_succ]
    refine takeK 10 13 (v := ?_) rfl rfl (by kernel_rfl) (by kernel_rfl) (by kernel_rfl) (by kernel_rfl) (fun _ _ _ h => h) (by rfl) ?_ (by assumption) ?_
    rotate_left
    · (intro w hSw; go_simp; first | done | with_reducible rfl)
    simp only [List.setIfInBounds_toArray, List.set_cons_zero, List.set_cons_succ]
    have hx9 := HX.out.below HB9.out HX.out.lt
    have hxf := hx9.frozen 0
    have hxc := hx9.cell 0
    simp only [List.getElem?_cons_zero] at hxc
    refine lastK (by kernel_rfl) rfl (by kernel_rfl) (fun K hK => ?_)
    go_simp
    refine hK.out _ _ ?_
    clear hK K
    try simp only [Act.put, List.setIfInBounds_toArray, List.set_cons_zero, List.set_cons_succ]
    clear hHeld hxf hxc
    have HIT9 : Hid (ItemsAt w9 (.slice (some ⟨g9, 0, none⟩) (c.items.length + 1) cap9) (c.items ++ [x])) := Lib.hid (by
      have h9 := HO9.out
      exact items_of_own (base := w1.heap.size) (e := 59) (by rw [List.length_append, List.flatMap_append]; simpa using h9))
    have hr9 := HR.out.below HB9.out HR.out.lt
    have z0 := hx9.cell 0
    have z1 := hx9.cell 1
    have z2 := hx9.cell 2
    have z3 := hx9.cell 3
    have y0 := hr9.cell 0
    have y1 := hr9.cell 1
    have y2 := hr9.cell 2
    have y3 := hr9.cell 3
    have yf0 := hr9.frozen 0
    have yf1 := hr9.frozen 1
    have yf2 := hr9.frozen 2
    have yf3 := hr9.frozen 3
    simp only [List.getElem?_cons_succ, List.getElem?_cons_zero] at z0 z1 z2 z3 y0 y1 y2 y3
    go_wp2_with fail
    obtain ⟨vz, hvz⟩ : ∃ V, Value.slice (some ⟨g9, 0, none⟩) (c.items.length + 1) cap9 = V := ⟨_, rfl⟩
    rw [hvz] at HIT9 ⊢
    have HRZ := (((((hr9.far (p := ⟨w.heap.size, 0, none⟩) (show w.heap.size + 1 ≠ w.heap.size by omega) vz).set 0 vz).set 1 (.slice ar c.rules.length cr)).set 2 (.slice none 0 0)).set 3 (.slice none 0 0))
    have HOZ : Only (fun b => b = w.heap.size ∨ b = w.heap.size + 1) w9 (((((w9.setCell ⟨w.heap.size, 0, none⟩ vz).setCell ⟨w.heap.size + 1, 0, none⟩ vz).setCell ⟨w.heap.size + 1, 1, none⟩ (.slice ar c.rules.length cr)).setCell ⟨w.heap.size + 1, 2, none⟩ (.slice none 0 0)).setCell ⟨w.heap.size + 1, 3, none⟩ (.slice none 0 0)) :=
      (((((Only.refl _ w9).set (p := ⟨w.heap.size, 0, none⟩) (Or.inl rfl) vz).set (p := ⟨w.heap.size + 1, 0, none⟩) (Or.inr rfl) vz).set (p := ⟨w.heap.size + 1, 1, none⟩) (Or.inr rfl) _).set (p := ⟨w.heap.size + 1, 2, none⟩) (Or.inr rfl) _).set (p := ⟨w.heap.size + 1, 3, none⟩) (Or.inr rfl) _
    obtain ⟨wz, hwz⟩ : ∃ W, (((((w9.setCell ⟨w.heap.size, 0, none⟩ vz).setCell ⟨w.heap.size + 1, 0, none⟩ vz).setCell ⟨w.heap.size + 1, 1, none⟩ (.slice ar c.rules.length cr)).setCell ⟨w.heap.size + 1, 2, none⟩ (.slice none 0 0)).setCell ⟨w.heap.size + 1, 3, none⟩ (.slice none 0 0)) = W := ⟨_, rfl⟩
    rw [hwz] at HRZ HOZ ⊢
    have HB9z := HB.out.trans (HB9.out.mono HB.out.size)
    have HBZ : Below w.heap.size w wz := HOZ.below HB9z HB9z.size (fun k hk => by rcases hk with hk | hk <;> omega)
    have r0 := HRZ.cell 0
    have r1 := HRZ.cell 1
    have r2 := HRZ.cell 2
    have r3 := HRZ.cell 3
    simp only [List.set_cons_zero, List.set_cons_succ, List.getElem?_cons_succ, List.getElem?_cons_zero] at r0 r1 r2 r3
    have HITZ : ItemsAt wz vz (c.items ++ [x]) := SliceOf.onlyS HIT9.out HOZ (fun b hb y cs hc => ⟨2, by omega, by rw [hc]; rcases hb with rfl | rfl <;> simp [z2, y2, itmC]⟩) (fun _ _ h => h)
    have HCZ : CatAt wz vz (.slice ar c.rules.length cr) (badC c) := by
      rw [HBD.out]
      exact ⟨HITZ, HC.out.rules.below HBZ⟩
    exact bodyPost_ret (v := catV vz (.slice ar c.rules.length cr)) (by simp [results, Tryz.results15, go_sem, catV, r0, r1, r2, r3]) rfl ⟨⟨_, rfl, HCZ⟩, HBZ⟩
end Go.Proofs.YtfpcgjgkbniofaaGreatDoor
