/- law11.run: a sequence performed. -/
import Derived.Test.YtfpcgjgkbniofaaDoorGNet2
import Derived.Test.YtfpcgjgkbniofaaDoorGGen
import Derived.BigRegion
set_option linter.unusedVariables false
set_option linter.unusedSimpArgs false
namespace Go.Proofs.YtfpcgjgkbniofaaDoor
open Go.RowKit
attribute [local go_sem] Oper.semAt_some

theorem pre_of_own {w : World} {base t g n cap : Nat} {xs : List Value} (h : w.ownsRow base t 1 (.slice (some ⟨g, 0, none⟩) n cap) n xs) : ∃ tl, BlkC w g t (xs ++ tl) := by
  obtain ⟨hl, ho⟩ := h
  rcases ho with ⟨hv, _⟩ | ⟨g', cap', cur, hv, hb, hh, hn, hm, hs, ht⟩
  · cases hv
  · injection hv with e1 e2 e3
    injection e1 with e1
    injection e1 with e1
    subst e1
    refine ⟨cur.toList.drop (n * 1), ?_⟩
    rw [← ht, List.take_append_drop]
    exact hh
theorem pre_at (n : Nat) (f : Nat → Int) (tl : List Value) (j : Nat) (h : j < n) : (bagL n f ++ tl)[j]? = some (.int .i64 (f j)) := by
  rw [List.getElem?_append_left (by rw [bagL_len]; exact h), bagL_at _ _ _ h]
theorem pre_set (n : Nat) (f : Nat → Int) (tl : List Value) (j : Nat) (x : Int) (h : j < n) : (bagL n f ++ tl).set j (.int .i64 x) = bagL n (fun i => if i = j then x else f i) ++ tl := by
  rw [List.set_append_left _ _ (by rw [bagL_len]; exact h), bagL_set]
theorem ints_of_pre {w : World} {g n cap : Nat} {t : TypeId} {f : Nat → Int} {tl : List Value} (h : BlkC w g t (bagL n f ++ tl)) (hc : n ≤ cap) (hc2 : cap ≤ 9223372036854775807) : IntsOf w (.slice (some ⟨g, 0, none⟩) n cap) ((List.range n).map f) := by
  have hl : ((List.range n).map f).length = n := by simp
  refine ⟨_, cap, by rw [hl], by omega, hc2, fun h0 => ⟨g, rfl, h.lt, fun j hj => ⟨_, rfl, rfl, fun i hi => ?_⟩⟩⟩
  obtain rfl : i = 0 := by omega
  have hj' : j < n := by omega
  rw [Nat.mul_one, Nat.add_zero, h.cell, pre_at _ _ _ _ hj']
  simp [zv]

theorem ofI_none (l : List Amt) (i : Nat) (h : ∀ a ∈ l, a.item ≠ i) : ofI l i = 0 := by
  induction l with
  | nil => rfl
  | cons x r ih => rw [ofI_cons, if_neg (h x (by simp)), ih (fun a ha => h a (by simp [ha]))]
theorem sorted_at {l : List Amt} (h : SortedA l) (k : Nat) (hk : k < l.length) : ofI (l.take k) l[k].item = 0 ∧ ofI l l[k].item = l[k].n := by
  have h1 : ofI (l.take k) l[k].item = 0 := by
    refine ofI_none _ _ (fun a ha => ?_)
    obtain ⟨q, hq, rfl⟩ := List.mem_take_iff_getElem.1 ha
    have := List.pairwise_iff_getElem.1 h q k (by omega) hk (by omega)
    omega
  have h2 : ofI (l.drop (k + 1)) l[k].item = 0 := by
    refine ofI_none _ _ (fun a ha => ?_)
    obtain ⟨q, hq, rfl⟩ := List.mem_drop_iff_getElem.1 ha
    have := List.pairwise_iff_getElem.1 h k (k + 1 + q) hk (by omega) (by omega)
    omega
  refine ⟨h1, ?_⟩
  have h3 : ofI l l[k].item = ofI (l.take k ++ l[k] :: l.drop (k + 1)) l[k].item := by rw [← List.drop_eq_getElem_cons hk, List.take_append_drop]
  rw [h3, ofI_append, ofI_cons, h1, h2, if_pos rfl]
  omega

/-- the bag suffices -/
def runB (c : Cat) (s : List Nat) (b : Nat → Int) : Bool := (List.range c.items.length).all (fun i => decide (needF i (rsOf c s) ≤ b i))
theorem runB_true {c : Cat} {s : List Nat} {b : Nat → Int} : runB c s b = true ↔ ∀ i, i < c.items.length → needF i (rsOf c s) ≤ b i := by
  unfold runB
  rw [List.all_eq_true]
  exact ⟨fun h i hi => by simpa using h i (List.mem_range.2 hi), fun h i hi => by simpa using h i (List.mem_range.1 hi)⟩

theorem rsOf_split (c : Cat) (s : List Nat) (j : Nat) : rsOf c s = rsOf c (s.take j) ++ rsOf c (s.drop j) := by
  unfold rsOf
  rw [← List.filterMap_append, List.take_append_drop]
theorem need_le_all (c : Cat) (s : List Nat) (j i : Nat) : needF i (rsOf c (s.take j)) ≤ needF i (rsOf c s) := by
  rw [rsOf_split c s j]
  unfold needF
  rw [needR_append]
  exact needR_ge _ _ _ _
/-- too little: the run stops -/
theorem seq_stop {c : Cat} {s : List Nat} {b : Nat → Int} {j i : Nat} (hj : j < s.length) (hr : s[j] < c.rules.length) (hi : i < c.items.length) (h : b i + netF i (rsOf c (s.take j)) - (ofI c.rules[s[j]].take i : Nat) < 0) : runB c s b = false := by
  rw [Bool.eq_false_iff]
  intro h2
  have h3 := runB_true.1 h2 i hi
  have h4 := need_le_all c s (j + 1) i
  rw [rsOf_take c s j hj hr, needF_snoc] at h4
  omega
/-- enough for one more -/
theorem seq_goes {c : Cat} {s : List Nat} {b : Nat → Int} {j : Nat} (hj : j < s.length) (hr : s[j] < c.rules.length) (h : ∀ i, i < c.items.length → needF i (rsOf c (s.take j)) ≤ b i)
    (h2 : ∀ q (hq : q < c.rules[s[j]].take.length), 0 ≤ b c.rules[s[j]].take[q].item + netF c.rules[s[j]].take[q].item (rsOf c (s.take j)) - (ofI c.rules[s[j]].take c.rules[s[j]].take[q].item : Nat)) :
    ∀ i, i < c.items.length → needF i (rsOf c (s.take (j + 1))) ≤ b i := by
  intro i hi
  have h3 := h i hi
  rw [rsOf_take c s j hj hr, needF_snoc]
  by_cases hx : ∃ q, ∃ hq : q < c.rules[s[j]].take.length, c.rules[s[j]].take[q].item = i
  · obtain ⟨q, hq, rfl⟩ := hx
    have := h2 q hq
    omega
  · have h0 : ofI c.rules[s[j]].take i = 0 := ofI_none _ _ (fun a ha e => hx (by obtain ⟨q, hq, rfl⟩ := List.mem_iff_getElem.1 ha; exact ⟨q, hq, e⟩))
    have := needF_net i (rsOf c (s.take j))
    rw [h0]
    omega

theorem BoxC.only {S : Nat → Prop} {w w' : World} {b : Nat} {vi vr : Value} (h : BoxC w b vi vr) (ho : Only S w w') (hS : ¬ S b) : BoxC w' b vi vr :=
  ⟨Nat.lt_of_lt_of_le h.lt ho.size, (ho.cell (p := ⟨b, 0, none⟩) hS h.lt).trans h.c0, (ho.cell (p := ⟨b, 1, none⟩) hS h.lt).trans h.c1, (ho.cell (p := ⟨b, 2, none⟩) hS h.lt).trans h.c2, (ho.cell (p := ⟨b, 3, none⟩) hS h.lt).trans h.c3⟩
theorem bag_cells {w : World} {v : Value} {n : Nat} {b : Nat → Int} (h : IntsOf w v ((List.range n).map b)) (hn : 0 < n) : ∃ g cap, v = .slice (some ⟨g, 0, none⟩) n cap ∧ g < w.heap.size ∧ ∀ j u, (bagL n b)[j]? = some u → w.cell? ((⟨g, 0, none⟩ : Addr).add j) = some u := by
  have hl : ((List.range n).map b).length = n := by simp
  obtain ⟨g, cap, hv, hg, _⟩ := IntsOf.at_ h 0 (by omega)
  rw [hl] at hv
  refine ⟨g, cap, hv, hg, fun j u hu => ?_⟩
  have hj : j < n := by
    rcases Nat.lt_or_ge j n with h1 | h1
    · exact h1
    · rw [List.getElem?_eq_none (by rw [bagL_len]; exact h1)] at hu; cases hu
  obtain ⟨g', cap', hv', _, hc⟩ := IntsOf.at_ h j (by omega)
  rw [hv, hl] at hv'
  injection hv' with e1 e2 e3
  injection e1 with e1
  injection e1 with e1
  subst e1
  have hadd : (⟨g, 0, none⟩ : Addr).add j = ⟨g, j, none⟩ := by unfold Addr.add; split <;> simp_all
  rw [bagL_at _ _ _ hj] at hu
  rw [hadd, hc, ← hu]
  simp

set_option maxRecDepth 100000 in
set_option maxHeartbeats 4000000 in
theorem run_any (vi vr vs vb : Value) (c : Cat) (s : List Nat) (b : Nat → Int) (w : World) (hc : CatAt w vi vr c) (hg : Good c) (hs : NatsOf w vs s) (hb : IntsOf w vb ((List.range c.items.length).map b)) (hin : ∀ i ∈ s, i < c.rules.length) (hl : s.length ≤ 1000)
    (hb0 : ∀ i, 0 ≤ b i) (hb1 : ∀ i, b i ≤ 1000000000) :
    Calls Tryd.prog 16 #[catV vi vr, vs, vb] w fun e w' => (∃ v, e = .returned (.tuple #[v, .bool (runB c s b)]) ∧ (runB c s b = true → IntsOf w' v ((List.range c.items.length).map (fun i => b i + netF i (rsOf c s))))) ∧ Below w.heap.size w w' := by
  obtain ⟨ai, ci, rfl, hi1, hi2⟩ := hc.items.form
  obtain ⟨ar, cr, rfl, hr1, hr2⟩ := hc.rules.form
  obtain ⟨as_, cs, rfl, hs1, hs2⟩ := hs.form
  obtain ⟨gb, cb, rfl, hgb, hbc⟩ := bag_cells hb (by have := hg.some_; omega)
  have HC := Lib.hid hc
  have HS := Lib.hid hs
  have HG := Lib.hid hg
  have HIN := Lib.hid hin
  have HB0 := Lib.hid hb0
  have HB1 := Lib.hid hb1
  have hli := hg.items
  have hl1 := hg.some_
  have hlr := hg.rules
  obtain ⟨w1, hw1⟩ : ∃ w1, w.alloc (.cells #[.slice ai c.items.length ci, .slice ar c.rules.length cr, .slice none 0 0, .slice none 0 0] 29) = w1 := ⟨_, rfl⟩
  have HX1 : Hid (BoxC w1 w.heap.size (.slice ai c.items.length ci) (.slice ar c.rules.length cr)) := Lib.hid (by rw [← hw1]; exact BoxC.new _ _ _)
  have HBB1 : Hid (Below w.heap.size w w1) := Lib.hid (by rw [← hw1]; exact (Below.refl _ _).alloc (Nat.le_refl _) _)
  have HCB : Hid (∀ j u, (bagL c.items.length b)[j]? = some u → (w1.alloc (.cells #[] 3)).cell? ((⟨gb, 0, none⟩ : Addr).add j) = some u) := Lib.hid (fun j u hu => by
    have hadd : (⟨gb, 0, none⟩ : Addr).add j = ⟨gb, j, none⟩ := by unfold Addr.add; split <;> simp_all
    have h9 := hbc j u hu
    rw [hadd] at h9 ⊢
    rw [World.cell?_alloc_lt w1 _ _ (Nat.lt_of_lt_of_le hgb HBB1.out.size), ← hw1, World.cell?_alloc_lt w _ _ hgb]
    exact h9)
  clear hc hs hg hin hb hbc hb0 hb1
  unfold catV
  go_enter Tryd.func16, Tryd.ntmps16
  go_wp2_with (at_builtin; refine wpList_appN (W0 := w1) (B := w1.heap.size) elemInt rfl _ _ rfl (.slice (some ⟨w1.heap.size, 0, none⟩) 0 0) 0 [] rfl ⟨gb, 0, none⟩ c.items.length cb (bagL c.items.length b) rfl (by simp [bagL]) HCB.out (by simp [bagL, zv, Value.oneCell']) (World.ownsRow_made w1 #[] 0 (Nat.le_refl _) (by unfold maxLen; omega) (by simp)) ((Below.refl _ _).alloc (Nat.le_refl _) _) (by simp) (by omega) (by omega) ?_)
  intro v5 w5 Hown HB5 HO5
  obtain ⟨g5, cap5, hv5, hcap5, hcap5b⟩ := Hown.out.form (by omega)
  subst hv5
  have hcapb : c.items.length ≤ cap5 ∧ cap5 ≤ 9223372036854775807 := by
    rcases Hown.out.2 with ⟨hv, _⟩ | ⟨_, _, _, hv, _, _, hn, h3, _⟩
    · cases hv
    · injection hv with _ _ e; unfold maxLen at h3; omega
  obtain ⟨tl, htl⟩ := pre_of_own Hown.out
  have HK0 := Lib.hid htl
  have hg5 := (Hown.out.lt g5 rfl).1
  have HX5 := Lib.hid (HX1.out.below HB5.out)
  have HBB5 := Lib.hid (HBB1.out.trans (HB5.out.mono HBB1.out.size))
  have hw1s : w.heap.size < w1.heap.size := HX1.out.lt
  clear htl HX1 HBB1 HCB HO5 HB5 Hown hw1
  go_wp2_with fail
  go_loopw [9] (fun i wr => ∃ j : Nat, j ≤ s.length ∧ i = .int .i64 j ∧ Hid (BlkC wr g5 3 (bagL c.items.length (fun i => b i + netF i (rsOf c (s.take j))) ++ tl)) ∧ Hid (Only (fun b => b = g5) w5 wr) ∧ Hid (∀ i, i < c.items.length → needF i (rsOf c (s.take j)) ≤ b i)) (fun i _ => s.length - (intOf i).toNat)
  case atStart => exact ⟨0, by omega, rfl, Lib.hid (by simpa [rsOf, netF] using HK0.out), Lib.hid (Only.refl _ _), Lib.hid (fun i _ => by simpa [rsOf, needF, needR] using HB0.out i)⟩
  case round =>
    clear HK0
    obtain ⟨j, hj, rfl, HK, HO, HN⟩ := hrel
    have HBr := Lib.hid (HO.out.below HBB5.out HBB5.out.size (fun k hk => by omega))
    have HXr : Hid (BoxC wr w.heap.size (.slice ai c.items.length ci) (.slice ar c.rules.length cr)) := Lib.hid (HX5.out.only HO.out (by omega))
    by_cases hlt : j < s.length
    · obtain ⟨b1, cap1, hv1, hb1, n0⟩ := NatsOf.at_ (HS.out.below HBr.out) j hlt
      injection hv1 with e1 e2 e3
      subst e1
      clear e2 e3
      have hsj := HIN.out s[j] (List.getElem_mem hlt)
      obtain ⟨b2, cap2, p, hv2, hb2, hr, hcs00⟩ := RulesAt.at_ HC.out.rules s[j] hsj
      have hcs0 := hcs00.below HBr.out hb2
      have hb2o : b2 < wr.heap.size := Nat.lt_of_lt_of_le hb2 HBr.out.size
      injection hv2 with e1 e2 e3
      subst e1
      clear e2 e3
      have HGR := Lib.hid (HG.out.each c.rules[s[j]] (List.getElem_mem hsj))
      have HTK := Lib.hid (rsOf_take c s j hlt hsj)
      have HST := Lib.hid (fun i hi h => seq_stop (b := b) (i := i) hlt hsj hi h)
      have HGO := Lib.hid (seq_goes (b := b) hlt hsj HN.out)
      obtain ⟨c0, c1, c2, c3, c4, c5, c6, c7, c8⟩ := hcs0
      have HR := Lib.hid hr
      have m1 := HXr.out.c1
      have hxl := HXr.out.lt
      obtain ⟨wo, rfl⟩ : ∃ wo : World, wo = wr := ⟨_, rfl⟩
      clear hr hcs00
      generalize c.rules[s[j]] = r at *
      generalize s[j] = sj at *
      go_wp2_with fail
      go_region
      obtain ⟨w6, hw6⟩ : ∃ W, (wo.alloc (.cells #[.string ⟨r.name.toArray⟩, .bool r.spawn, .int .i64 0, .int .i64 r.time, .int .i64 1, .int .i64 r.of_, .slice p.at_ r.take.length p.ct, .slice p.ag r.give.length p.cg, .slice p.ab r.back.length p.cb] 36)).drew = W := ⟨_, rfl⟩
      have HRB : Hid (BlkC w6 wo.heap.size 36 [.string ⟨r.name.toArray⟩, .bool r.spawn, .int .i64 0, .int .i64 r.time, .int .i64 1, .int .i64 r.of_, .slice p.at_ r.take.length p.ct, .slice p.ag r.give.length p.cg, .slice p.ab r.back.length p.cb]) := Lib.hid (by rw [← hw6]; exact (BlkC.new _ _ _).drew)
      have HO6 : Hid (Only (fun b => b = g5) w5 w6) := Lib.hid (by rw [← hw6]; exact (HO.out.alloc _).drew)
      have HK6 : Hid (BlkC w6 g5 3 (bagL c.items.length (fun i => b i + netF i (rsOf c (s.take j))) ++ tl)) := Lib.hid (by rw [← hw6]; exact (HK.out.alloc _).drew)
      have HB6 : Hid (Below wo.heap.size wo w6) := Lib.hid (by rw [← hw6]; exact ((Below.refl _ _).alloc (Nat.le_refl _) _).drew)
      have hgR : g5 < wo.heap.size := HK.out.lt
      obtain ⟨R, hR⟩ : ∃ R, wo.heap.size = R := ⟨_, rfl⟩
      rw [hw6]
      rw [hR] at HRB hgR ⊢
      clear hb2o hw6 c0 c1 c2 c3 c4 c5 c6 c7 c8 n0 m1 HK HO HB6 hb1 hb2 HXr hxl HBr hR
      obtain ⟨rn, rs, rt, ro, lt, lg, lb⟩ := r
      simp only [] at HRB HST HGO
      have hl1' := HGR.out.take.len
      have hl2' := HGR.out.give.len
      simp only [] at hl1' hl2'
      go_wp2_with fail
      go_loopw [11] (fun i wr => ∃ k : Nat, k ≤ lt.length ∧ i = .int .i64 k ∧ Hid (BlkC wr g5 3 (bagL c.items.length (fun i => (b i + netF i (rsOf c (s.take j))) - (ofI (lt.take k) i : Nat)) ++ tl)) ∧ Hid (Only (fun b => b = g5) w6 wr) ∧ Hid (∀ q (hq : q < lt.length), q < k → 0 ≤ b lt[q].item + netF lt[q].item (rsOf c (s.take j)) - (ofI lt lt[q].item : Nat))) (fun i _ => lt.length - (intOf i).toNat)
      case atStart => exact ⟨0, by omega, rfl, Lib.hid (by simpa [ofI_nil] using HK6.out), Lib.hid (Only.refl _ _), Lib.hid (fun q _ h => by omega)⟩
      case round =>
        clear HK6
        obtain ⟨k, hk, rfl, HK2, HO2, HQ⟩ := hrel
        have HRr : Hid (BlkC wr R 36 [.string ⟨rn.toArray⟩, .bool rs, .int .i64 0, .int .i64 rt, .int .i64 1, .int .i64 ro, .slice p.at_ lt.length p.ct, .slice p.ag lg.length p.cg, .slice p.ab lb.length p.cb]) := Lib.hid (HRB.out.only HO2.out (by omega))
        have z6 : wr.cell? ⟨R, 6, none⟩ = some (.slice p.at_ lt.length p.ct) := HRr.out.cell 6
        have hgl := HK2.out.lt
        by_cases hlt2 : k < lt.length
        · have hB2 := (HO6.out.trans HO2.out).below HBB5.out HBB5.out.size (fun k hk => by omega)
          obtain ⟨b3, cap3, hv3, hb3, y00, y01⟩ := AmtsAt.at_ HR.out.take k hlt2
          have y0 := (hB2.cell (p := ⟨b3, k * 2, none⟩) hb3).trans y00
          have y1 := (hB2.cell (p := ⟨b3, k * 2 + 1, none⟩) hb3).trans y01
          have hb3r : b3 < wr.heap.size := Nat.lt_of_lt_of_le hb3 hB2.size
          have hb3g : ¬ b3 = g5 := by omega
          clear y00 y01
          injection hv3 with e1 e2 e3
          clear e2 e3
          have hit := HGR.out.take.all lt[k] (List.getElem_mem hlt2)
          have HSTP := Lib.hid (take_step lt k hlt2 (fun i => b i + netF i (rsOf c (s.take j))))
          have hso := sorted_at HGR.out.take.sorted k hlt2
          have hnl := netF_le lt[k].item (rsOf c (s.take j)) (rsOf_good HG.out _)
          have hrl := rsOf_len c (s.take j)
          rw [List.length_take] at hrl
          have hb01 := HB0.out lt[k].item
          have hb02 := HB1.out lt[k].item
          have HSTK := Lib.hid (HST.out lt[k].item)
          have HQ2 : Hid (0 ≤ b lt[k].item + netF lt[k].item (rsOf c (s.take j)) - (ofI lt lt[k].item : Nat) → ∀ q (hq : q < lt.length), q < k + 1 → 0 ≤ b lt[q].item + netF lt[q].item (rsOf c (s.take j)) - (ofI lt lt[q].item : Nat)) := Lib.hid (fun h q hq hqk => by
            rcases Nat.lt_or_ge q k with h1 | h1
            · exact HQ.out q hq h1
            · obtain rfl : q = k := by omega
              exact h)
          simp only [] at hit y0 y1 hso
          generalize lt[k] = x at *
          obtain ⟨xi, xn⟩ := x
          simp only [] at hit y0 y1 hnl HSTP hso hb01 hb02 HSTK HQ2
          obtain ⟨z, hz⟩ : ∃ z, b xi + netF xi (rsOf c (s.take j)) = z := ⟨_, rfl⟩
          rw [hso.1, hz] at HSTP
          rw [hso.2, hz] at HSTK HQ2
          have hzl : -100000000 ≤ z ∧ z ≤ 10000000000 := by omega
          have y2 := HK2.out.cell xi
          rw [pre_at _ _ _ _ hit.1, hso.1, hz] at y2
          have y3 := HK2.out.frozen xi
          have y2 : wr.cell? ⟨g5, xi, none⟩ = some (.int .i64 z) := by rw [y2]; simp
          have hWr : IntKind.i64.wrap (z - (xn : Int)) = z - (xn : Int) := IntWalk.i64_in _ (by omega)
          have i1 : (0 : Int) ≤ (xi : Int) := by omega
          have i2 : (xi : Int) < (c.items.length : Int) := by omega
          have HE1 := Lib.hid e1
          rw [e1] at z6
          clear hz hnl hrl e1 hB2 hso hb01 hb02
          go_wp2_with fail
          go_region
          obtain ⟨w7, hw7⟩ : ∃ W, (wr.setCell ⟨g5, xi, none⟩ (.int .i64 (z - (xn : Int)))).drew = W := ⟨_, rfl⟩
          have HK7 : Hid (BlkC w7 g5 3 (bagL c.items.length (fun i => (b i + netF i (rsOf c (s.take j))) - (ofI (lt.take (k + 1)) i : Nat)) ++ tl)) := Lib.hid (by
            rw [← hw7, ← HSTP.out]
            have h9 := (HK2.out.set xi (.int .i64 (z - (xn : Int)))).drew
            rw [pre_set _ _ _ _ _ hit.1] at h9
            simpa using h9)
          have HO7 : Hid (Only (fun b => b = g5) w6 w7) := Lib.hid (by rw [← hw7]; exact (HO2.out.set (p := ⟨g5, xi, none⟩) rfl _).drew)
          have HOw : Hid (Only (fun b => b = g5) wr w7) := Lib.hid (by rw [← hw7]; exact (only_set _ _ _ _).drew)
          have hset : w7.cell? ⟨g5, xi, none⟩ = some (.int .i64 (z - (xn : Int))) := by
            rw [← hw7]
            have h9 := ((HK2.out.set xi (.int .i64 (z - (xn : Int)))).drew.cell xi)
            rw [List.getElem?_set_self (by rw [List.length_append, bagL_len]; omega)] at h9
            exact h9
          have HR7 := Lib.hid (HRr.out.only HOw.out (by omega))
          have k6 : w7.cell? ⟨R, 6, none⟩ = some (.slice (some ⟨b3, 0, none⟩) lt.length p.ct) := by rw [← HE1.out]; exact HR7.out.cell 6
          have k0 := (HOw.out.cell (p := ⟨b3, k * 2, none⟩) hb3g hb3r).trans y0
          have k1 := (HOw.out.cell (p := ⟨b3, k * 2 + 1, none⟩) hb3g hb3r).trans y1
          rw [hw7]
          have HB7 := Lib.hid (HO7.out.below (HO6.out.below HBB5.out HBB5.out.size (fun k hk => by omega)) (Nat.le_trans HBB5.out.size HO6.out.size) (fun k hk => by omega))
          clear z6 y0 y1 y2 y3 hw7 HSTP HK2 HO2 HRr
          by_cases hneg : z - (xn : Int) < 0
          · have HF := Lib.hid (HSTK.out hit.1 hneg)
            have q1 : decide (z - (xn : Int) < 0) = true := by simpa using hneg
            go_wp2_with fail
            go_ret2
            exact ⟨⟨_, by rw [HF.out]; rfl, fun h => by rw [HF.out] at h; cases h⟩, HB7.out⟩
          · have q1 : decide (z - (xn : Int) < 0) = false := by simpa using hneg
            have HQ3 := Lib.hid (HQ2.out (by omega))
            go_wp2_with fail
            go_roundw
            case rel => exact ⟨k + 1, by omega, by go_num, HK7, HO7, HQ3⟩
            case measure => simp [intOf]; omega
        · have HK3 : Hid (BlkC wr g5 3 (bagL c.items.length (fun i => (b i + netF i (rsOf c (s.take j))) - (ofI lt i : Nat)) ++ tl)) := Lib.hid (by
            have h9 := HK2.out
            rw [List.take_of_length_le (show lt.length ≤ k by omega)] at h9
            exact h9)
          have HN2 := Lib.hid (HGO.out (fun q hq => HQ.out q hq (by omega)))
          have HO3 := Lib.hid (HO6.out.trans HO2.out)
          clear HK2 HQ HGO HST HN HO6 HO2 HRB
          obtain ⟨w8, rfl⟩ : ∃ wo : World, wo = wr := ⟨_, rfl⟩
          go_wp2_with fail
          clear z6
          go_loopw [12] (fun i wr => ∃ k : Nat, k ≤ lg.length ∧ i = .int .i64 k ∧ Hid (BlkC wr g5 3 (bagL c.items.length (fun i => ((b i + netF i (rsOf c (s.take j))) - (ofI lt i : Nat)) + (ofI (lg.take k) i : Nat)) ++ tl)) ∧ Hid (Only (fun b => b = g5) w8 wr)) (fun i _ => lg.length - (intOf i).toNat)
          case atStart => exact ⟨0, by omega, rfl, Lib.hid (by simpa [ofI_nil] using HK3.out), Lib.hid (Only.refl _ _)⟩
          case round =>
            clear HK3
            obtain ⟨k, hk, rfl, HK2, HO2⟩ := hrel
            have HR8 := Lib.hid (HRr.out.only HO2.out (by omega))
            have z7 : wr.cell? ⟨R, 7, none⟩ = some (.slice p.ag lg.length p.cg) := HR8.out.cell 7
            have hgl := HK2.out.lt
            by_cases hlt2 : k < lg.length
            · have hB2 := (HO3.out.trans HO2.out).below HBB5.out HBB5.out.size (fun k hk => by omega)
              obtain ⟨b3, cap3, hv3, hb3, y00, y01⟩ := AmtsAt.at_ HR.out.give k hlt2
              have y0 := (hB2.cell (p := ⟨b3, k * 2, none⟩) hb3).trans y00
              have y1 := (hB2.cell (p := ⟨b3, k * 2 + 1, none⟩) hb3).trans y01
              have hb3r : b3 < wr.heap.size := Nat.lt_of_lt_of_le hb3 hB2.size
              injection hv3 with e1 e2 e3
              clear e2 e3 y00 y01
              have hit := HGR.out.give.all lg[k] (List.getElem_mem hlt2)
              have HSTP := Lib.hid (give_step lg k hlt2 (fun i => (b i + netF i (rsOf c (s.take j))) - (ofI lt i : Nat)))
              have hso := sorted_at HGR.out.give.sorted k hlt2
              have hnl := netF_le lg[k].item (rsOf c (s.take j)) (rsOf_good HG.out _)
              have hrl := rsOf_len c (s.take j)
              rw [List.length_take] at hrl
              have hol := ofI_le HGR.out.take lg[k].item
              have hb01 := HB0.out lg[k].item
              have hb02 := HB1.out lg[k].item
              simp only [] at hit y0 y1 hso hol
              generalize lg[k] = x at *
              obtain ⟨xi, xn⟩ := x
              simp only [] at hit y0 y1 hnl HSTP hso hb01 hb02 hol
              obtain ⟨z, hz⟩ : ∃ z, b xi + netF xi (rsOf c (s.take j)) - (ofI lt xi : Nat) = z := ⟨_, rfl⟩
              rw [hso.1, hz] at HSTP
              have hzl : -200000000 ≤ z ∧ z ≤ 10000000000 := by omega
              have y2 := HK2.out.cell xi
              rw [pre_at _ _ _ _ hit.1, hso.1, hz] at y2
              have y3 := HK2.out.frozen xi
              have y2 : wr.cell? ⟨g5, xi, none⟩ = some (.int .i64 z) := by rw [y2]; simp
              have hWr : IntKind.i64.wrap (z + (xn : Int)) = z + (xn : Int) := IntWalk.i64_in _ (by omega)
              have i1 : (0 : Int) ≤ (xi : Int) := by omega
              have i2 : (xi : Int) < (c.items.length : Int) := by omega
              rw [e1] at z7
              clear hz hnl hrl e1 hB2 hso hb01 hb02 hol
              go_wp2_with fail
              go_region
              obtain ⟨w7, hw7⟩ : ∃ W, (wr.setCell ⟨g5, xi, none⟩ (.int .i64 (z + (xn : Int)))).drew = W := ⟨_, rfl⟩
              have HK7 : Hid (BlkC w7 g5 3 (bagL c.items.length (fun i => ((b i + netF i (rsOf c (s.take j))) - (ofI lt i : Nat)) + (ofI (lg.take (k + 1)) i : Nat)) ++ tl)) := Lib.hid (by
                rw [← hw7, ← HSTP.out]
                have h9 := (HK2.out.set xi (.int .i64 (z + (xn : Int)))).drew
                rw [pre_set _ _ _ _ _ hit.1] at h9
                simpa using h9)
              have HO7 : Hid (Only (fun b => b = g5) w8 w7) := Lib.hid (by rw [← hw7]; exact (HO2.out.set (p := ⟨g5, xi, none⟩) rfl _).drew)
              rw [hw7]
              clear hw7 z7 y0 y1 y2 y3 HK2 HO2 HSTP
              go_wp2_with fail
              go_roundw
              case rel => exact ⟨k + 1, by omega, by go_num, HK7, HO7⟩
              case measure => simp [intOf]; omega
            · have HKF : Hid (BlkC wr g5 3 (bagL c.items.length (fun i => b i + netF i (rsOf c (s.take (j + 1)))) ++ tl)) := Lib.hid (by
                have h9 := HK2.out
                rw [List.take_of_length_le (show lg.length ≤ k by omega)] at h9
                rw [bagL_congr _ _ (fun i => ((b i + netF i (rsOf c (s.take j))) - (ofI lt i : Nat)) + (ofI lg i : Nat)) (fun i _ => by rw [HTK.out, netF_snoc]; unfold effI; simp only []; omega)]
                exact h9)
              have HOF := Lib.hid (HO3.out.trans HO2.out)
              clear HK2 HO2 HO3
              go_wp2_with fail
              go_roundw
              case rel => exact ⟨j + 1, by omega, by go_num, HKF, HOF, HN2⟩
              case measure => simp [intOf]; omega
    · have h9 := HK.out
      have h8 := HN.out
      rw [List.take_of_length_le (show s.length ≤ j by omega)] at h9 h8
      have HT := Lib.hid (runB_true.2 h8)
      have HI := Lib.hid (ints_of_pre h9 hcapb.1 hcapb.2)
      clear h9 h8
      go_wp2_with fail
      go_ret2
      exact ⟨⟨_, by rw [HT.out]; rfl, fun _ => HI.out⟩, HBr.out⟩
end Go.Proofs.YtfpcgjgkbniofaaDoor
