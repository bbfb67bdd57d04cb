/- gain.perform. -/
import Derived.Test.YtfpcgjgkbniofaaGreatDoorGWell
import Derived.RegionTactic
import Derived.ChangeAlike
import Derived.Test.YtfpcgjgkbniofaaGreatDoorRegLast
set_option linter.unusedVariables false
set_option linter.unusedSimpArgs false
namespace Go.Proofs.YtfpcgjgkbniofaaGreatDoor
open Go.RowKit

def bagL (n : Nat) (f : Nat → Int) : List Value := (List.range n).map (fun i => zv (f i))
theorem bagL_len (n : Nat) (f : Nat → Int) : (bagL n f).length = n := by simp [bagL]
theorem bagL_at (n : Nat) (f : Nat → Int) (j : Nat) (h : j < n) : (bagL n f)[j]? = some (.int .i64 (f j)) := by simp [bagL, h, zv]
theorem bagL_set (n : Nat) (f : Nat → Int) (j : Nat) (x : Int) : (bagL n f).set j (.int .i64 x) = bagL n (fun i => if i = j then x else f i) := by
  apply List.ext_getElem?
  intro i
  rw [List.getElem?_set]
  by_cases h : j = i
  · subst h
    by_cases hl : j < n
    · simp [bagL, hl, zv]
    · simp [bagL, hl]
  · rw [if_neg h]
    by_cases hl : i < n
    · simp [bagL, hl, zv, Ne.symm h]
    · simp [bagL, hl]
theorem bagL_congr (n : Nat) (f g : Nat → Int) (h : ∀ i, i < n → f i = g i) : bagL n f = bagL n g := by
  unfold bagL
  apply List.map_congr_left
  intro i hi
  rw [h i (List.mem_range.1 hi)]

/-- the rules of a sequence -/
def rsOf (c : Cat) (s : List Nat) : List Rul := s.filterMap (fun i => c.rules[i]?)
theorem rsOf_take (c : Cat) (s : List Nat) (j : Nat) (hj : j < s.length) (hr : s[j] < c.rules.length) : rsOf c (s.take (j + 1)) = rsOf c (s.take j) ++ [c.rules[s[j]]] := by
  unfold rsOf
  rw [List.take_succ_eq_append_getElem hj, List.filterMap_append]
  simp [hr]
theorem rsOf_len (c : Cat) (s : List Nat) : (rsOf c s).length ≤ s.length := List.length_filterMap_le _ _
theorem rsOf_good {c : Cat} (hg : Good c) (s : List Nat) : ∀ r ∈ rsOf c s, GoodR c.items.length r := by
  intro r hr
  obtain ⟨i, _, hi⟩ := List.mem_filterMap.1 hr
  exact hg.each r (List.mem_of_getElem? hi)

theorem IntsOf.at_ {w : World} {v : Value} {l : List Int} (h : IntsOf w v l) (j : Nat) (hj : j < l.length) :
    ∃ b cap, v = .slice (some ⟨b, 0, none⟩) l.length cap ∧ b < w.heap.size ∧ w.cell? ⟨b, j, none⟩ = some (.int .i64 l[j]) := by
  obtain ⟨b, cap, cs, hv, hb, rfl, _, hc⟩ := SliceOf.at_ h j hj
  have := hc 0 (by omega)
  rw [Nat.mul_one, Nat.add_zero] at this
  exact ⟨b, cap, hv, hb, this⟩

/-- a slice of indices -/
def NatsOf (w : World) (v : Value) (l : List Nat) : Prop := SliceOf 1 (fun _ (a : Nat) cs => cs = [zv (a : Int)]) w v l
theorem NatsOf.below {w w' : World} {v : Value} {l : List Nat} (h : NatsOf w v l) (hb : Below w.heap.size w w') : NatsOf w' v l := SliceOf.below h hb (fun _ _ h => h)
theorem NatsOf.at_ {w : World} {v : Value} {l : List Nat} (h : NatsOf w v l) (j : Nat) (hj : j < l.length) :
    ∃ b cap, v = .slice (some ⟨b, 0, none⟩) l.length cap ∧ b < w.heap.size ∧ w.cell? ⟨b, j, none⟩ = some (.int .i64 (l[j] : Int)) := by
  obtain ⟨b, cap, cs, hv, hb, rfl, _, hc⟩ := SliceOf.at_ h j hj
  have := hc 0 (by omega)
  rw [Nat.mul_one, Nat.add_zero] at this
  exact ⟨b, cap, hv, hb, this⟩
theorem IntsOf.nats {w : World} {v : Value} {l : List Nat} (h : IntsOf w v (l.map (fun i => ((i : Nat) : Int)))) : NatsOf w v l := by
  obtain ⟨a, cap, hv, h1, h2, hc⟩ := h
  rw [List.length_map] at hv h1
  refine ⟨a, cap, hv, h1, h2, fun h0 => ?_⟩
  obtain ⟨b, ha, hlt, hcc⟩ := hc (by rw [List.length_map]; exact h0)
  refine ⟨b, ha, hlt, fun j hj => ?_⟩
  obtain ⟨cs, hr, hl, hcl⟩ := hcc j (by rw [List.length_map]; exact hj)
  refine ⟨cs, ?_, hl, hcl⟩
  show cs = [zv ((l[j] : Nat) : Int)]
  have hr' : cs = [zv ((l.map (fun i => ((i : Nat) : Int)))[j]'(by rw [List.length_map]; exact hj))] := hr
  rw [hr', List.getElem_map]
theorem NatsOf.ints {w : World} {v : Value} {l : List Nat} (h : NatsOf w v l) : IntsOf w v (l.map (fun i => ((i : Nat) : Int))) := by
  obtain ⟨a, cap, hv, h1, h2, hc⟩ := h
  refine ⟨a, cap, by rw [List.length_map]; exact hv, by rw [List.length_map]; exact h1, h2, fun h0 => ?_⟩
  rw [List.length_map] at h0
  obtain ⟨b, ha, hlt, hcc⟩ := hc h0
  refine ⟨b, ha, hlt, fun j hj => ?_⟩
  have hj' : j < l.length := by rw [List.length_map] at hj; exact hj
  obtain ⟨cs, hr, hl, hcl⟩ := hcc j hj'
  refine ⟨cs, ?_, hl, hcl⟩
  show cs = [zv ((l.map (fun i => ((i : Nat) : Int)))[j])]
  have hr' : cs = [zv ((l[j] : Nat) : Int)] := hr
  rw [hr', List.getElem_map]

theorem CatAt.of_below {w w' : World} {vi vr : Value} {c : Cat} (h : CatAt w vi vr c) (hb : Below w.heap.size w w') : CatAt w' vi vr c := h.below hb

/-- the change of an item while a rule is performed -/
theorem take_step (l : List Amt) (k : Nat) (hk : k < l.length) (f : Nat → Int) : (fun i => if i = l[k].item then (f l[k].item - (ofI (l.take k) l[k].item : Nat)) - (l[k].n : Int) else f i - (ofI (l.take k) i : Nat)) = (fun i => f i - ((ofI (l.take (k + 1)) i : Nat) : Int)) := by
  funext i
  rw [ofI_take l k hk]
  by_cases h : i = l[k].item
  · rw [if_pos h, h, if_pos rfl]; omega
  · rw [if_neg h, if_neg (Ne.symm h)]; omega
theorem give_step (l : List Amt) (k : Nat) (hk : k < l.length) (f : Nat → Int) : (fun i => if i = l[k].item then (f l[k].item + (ofI (l.take k) l[k].item : Nat)) + (l[k].n : Int) else f i + (ofI (l.take k) i : Nat)) = (fun i => f i + ((ofI (l.take (k + 1)) i : Nat) : Int)) := by
  funext i
  rw [ofI_take l k hk]
  by_cases h : i = l[k].item
  · rw [if_pos h, h, if_pos rfl]; omega
  · rw [if_neg h, if_neg (Ne.symm h)]; omega

theorem need_step (l : List Amt) (k : Nat) (hk : k < l.length) (f N : Nat → Int) : (fun i => if i = l[k].item then max (max (N l[k].item) ((ofI (l.take k) l[k].item : Nat) - f l[k].item)) (-((f l[k].item - (ofI (l.take k) l[k].item : Nat)) - (l[k].n : Int))) else max (N i) ((ofI (l.take k) i : Nat) - f i)) = (fun i => max (N i) (((ofI (l.take (k + 1)) i : Nat) : Int) - f i)) := by
  funext i
  rw [ofI_take l k hk]
  by_cases h : i = l[k].item
  · rw [if_pos h, h, if_pos rfl]; omega
  · rw [if_neg h, if_neg (Ne.symm h)]; omega
theorem Only.alloc {S : Nat → Prop} {w w' : World} (h : Only S w w') (o : Obj) : Only S w (w'.alloc o) :=
  ⟨h.os, h.tape, h.output, Nat.le_trans h.size (by simp), fun k hk hn => (Below.heap_alloc w' o k (Nat.lt_of_lt_of_le hk h.size)).trans (h.block k hk hn)⟩

set_option maxRecDepth 100000 in
set_option maxHeartbeats 4000000 in
theorem perform_nil (vi vr vs : Value) (c : Cat) (s : List Nat) (gb : Nat) (w0 w : World) (hc : CatAt w0 vi vr c) (hg : Good c) (hs : ∀ W', Only (fun b => b = gb) w W' → NatsOf W' vs s) (hB : Below w0.heap.size w0 w) (hgb : w0.heap.size ≤ gb) (hin : ∀ i ∈ s, i < c.rules.length) (hl : s.length ≤ 1000)
    (hb : BlkC w gb 3 (bagL c.items.length (fun _ => 0)))  :
    Calls Tryz.prog 31 #[catV vi vr, vs, .slice (some ⟨gb, 0, none⟩) c.items.length c.items.length, .slice none 0 0] w fun e w' => (∃ v, e = .returned v) ∧ BlkC w' gb 3 (bagL c.items.length (fun i => netF i (rsOf c s))) ∧ Only (fun b => b = gb) w w' := by
  obtain ⟨ai, ci, rfl, hi1, hi2⟩ := hc.items.form
  obtain ⟨ar, cr, rfl, hr1, hr2⟩ := hc.rules.form
  obtain ⟨as_, cs, rfl, hs1, hs2⟩ := (hs w (Only.refl _ _)).form
  have HC := Lib.hid hc
  have HS := Lib.hid hs
  have HG := Lib.hid hg
  have HIN := Lib.hid hin
  have HBW := Lib.hid hB
  have HBB := Lib.hid hb
  have hli := hg.items
  have hlr := hg.rules
  have hlt0 := hb.lt
  skip
  skip
  clear hc hs hg hin hB hb
  unfold catV
  go_enter Tryz.func31, Tryz.ntmps31
  go_wp2_with fail
  go_loopw [16] (fun i wr => ∃ j : Nat, j ≤ s.length ∧ i = .int .i64 j ∧ Hid (BlkC wr gb 3 (bagL c.items.length (fun i => netF i (rsOf c (s.take j))))) ∧ Hid (Only (fun b => b = gb) w wr) ∧ Hid (BoxC wr w.heap.size (.slice ai c.items.length ci) (.slice ar c.rules.length cr))) (fun i _ => s.length - (intOf i).toNat)
  case atStart => exact ⟨0, by omega, rfl, Lib.hid (by simpa [rsOf, netF] using HBB.out.alloc _), Lib.hid (Only.of_below ((Below.refl _ _).alloc (Nat.le_refl _) _)), Lib.hid (BoxC.new _ _ _)⟩
  case round =>
    obtain ⟨j, hj, rfl, HK, HO, HX⟩ := hrel
    by_cases hlt : j < s.length
    · have hB0 := HO.out.below HBW.out HBW.out.size (fun k hk => by omega)
      obtain ⟨b1, cap1, hv1, hb1, n0⟩ := NatsOf.at_ (HS.out _ HO.out) j hlt
      injection hv1 with e1 e2 e3
      subst e1
      clear e2 e3
      have hsj := HIN.out s[j] (List.getElem_mem hlt)
      obtain ⟨b2, cap2, p, hv2, hb2, hr, hcs0⟩ := RulesAt.at_ HC.out.rules s[j] hsj
      have hcs := hcs0.below hB0 hb2
      injection hv2 with e1 e2 e3
      subst e1
      clear e2 e3
      have HGR := Lib.hid (HG.out.each c.rules[s[j]] (List.getElem_mem hsj))
      have HTK := Lib.hid (rsOf_take c s j hlt hsj)
      have z6 := hcs.c6
      have z7 := hcs.c7
      have HCS := Lib.hid hcs0
      have HR := Lib.hid hr
      have ht1 := hr.t1
      have hg1 := hr.g1
      have m1 := HX.out.c1
      have hxl := HX.out.lt
      have hgl0 := HK.out.lt
      skip
      obtain ⟨wo, rfl⟩ : ∃ wo : World, wo = wr := ⟨_, rfl⟩
      clear hr hcs hcs0 hB0
      generalize c.rules[s[j]] = r at *
      generalize s[j] = sj at *
      obtain ⟨rn, rs, rt, ro, lt, lg, lb⟩ := r
      simp only [] at z6 z7 ht1 hg1
      have hl1 := HGR.out.take.len
      have hl2 := HGR.out.give.len
      simp only [] at hl1 hl2
      go_wp2_with fail
      clear n0 z6 z7 m1 hb1
      go_loopw [27] (fun i wr => ∃ k : Nat, k ≤ lt.length ∧ i = .int .i64 k ∧ Hid (BlkC wr gb 3 (bagL c.items.length (fun i => netF i (rsOf c (s.take j)) - (ofI (lt.take k) i : Nat)))) ∧ Hid (Only (fun b => b = gb) wo wr)) (fun i _ => lt.length - (intOf i).toNat)
      case atStart => exact ⟨0, by omega, rfl, Lib.hid (by simpa [ofI_nil] using HK.out), Lib.hid (Only.refl _ _)⟩
      case round =>
        obtain ⟨k, hk, rfl, HK2, HO2⟩ := hrel
        have hgl := HK2.out.lt
        have hos := HO2.out.size
        skip
        by_cases hlt2 : k < lt.length
        · have hB2 := (HO.out.trans HO2.out).below HBW.out HBW.out.size (fun k hk => by omega)
          obtain ⟨b3, cap3, hv3, hb3, y0, y1⟩ := AmtsAt.at_ (HR.out.take.below hB2) k hlt2
          injection hv3 with e1 e2 e3
          clear e2 e3
          have hit := HGR.out.take.all lt[k] (List.getElem_mem hlt2)
          have HST := Lib.hid (take_step lt k hlt2 (fun i => netF i (rsOf c (s.take j))))
          skip
          have hnl := netF_le lt[k].item (rsOf c (s.take j)) (rsOf_good HG.out _)
          skip
          skip
          have hrl := rsOf_len c (s.take j)
          rw [List.length_take] at hrl
          have hol := ofI_le HGR.out.take lt[k].item
          have hol2 := ofI_take_le lt k lt[k].item
          simp only [] at hit hol hol2 y0 y1
          generalize lt[k] = x at *
          obtain ⟨xi, xn⟩ := x
          simp only [] at hit hol hol2 y0 y1 hnl HST
          skip
          obtain ⟨z, hz⟩ : ∃ z, netF xi (rsOf c (s.take j)) - (ofI (lt.take k) xi : Nat) = z := ⟨_, rfl⟩
          have hzl : -100000000 ≤ z ∧ z ≤ 100000000 := by omega
          skip
          have y2 := HK2.out.cell xi
          rw [bagL_at _ _ _ hit.1, hz] at y2
          have y3 := HK2.out.frozen xi
          rw [hz] at HST
          skip
          skip
          skip
          skip
          skip
          have hgne : gb ≠ wr.heap.size := by omega
          have i1 : (0 : Int) ≤ (xi : Int) := by omega
          have i2 : (xi : Int) < (c.items.length : Int) := by omega
          have HE1 := Lib.hid e1
          clear hz hnl hrl hol hol2 e1 hB2
          rw [HE1.out]
          go_wp2_with fail
          go_region
          go_wp2_with fail
          go_roundw
          case rel =>
            refine ⟨k + 1, by omega, by go_num, Lib.hid ?_, Lib.hid ((HO2.out.set (p := ⟨gb, xi, none⟩) rfl _).alloc _).drew⟩
            rw [← HST.out, ← bagL_set]
            exact ((HK2.out.set xi _).alloc _).drew
          case measure => simp [intOf]; omega
        · have HK4 := HK2.out
          rw [List.take_of_length_le (show lt.length ≤ k by omega)] at HK4
          have HK3 := Lib.hid HK4
          skip
          skip
          skip
          have hB2 := (HO.out.trans HO2.out).below HBW.out HBW.out.size (fun k hk => by omega)
          have hcs := HCS.out.below hB2 hb2
          have z7 := hcs.c7
          simp only [] at z7
          have HX2 : Hid (BoxC wr w.heap.size (.slice ai c.items.length ci) (.slice (some ⟨b2, 0, none⟩) c.rules.length cr)) := Lib.hid (by
            have hx := HX.out
            have hnb : ¬ (fun b => b = gb) w.heap.size := by simp only []; omega
            exact ⟨Nat.lt_of_lt_of_le hx.lt HO2.out.size, (HO2.out.cell (p := ⟨w.heap.size, 0, none⟩) hnb hx.lt).trans hx.c0, (HO2.out.cell (p := ⟨w.heap.size, 1, none⟩) hnb hx.lt).trans hx.c1, (HO2.out.cell (p := ⟨w.heap.size, 2, none⟩) hnb hx.lt).trans hx.c2, (HO2.out.cell (p := ⟨w.heap.size, 3, none⟩) hnb hx.lt).trans hx.c3⟩)
          have m1 := HX2.out.c1
          have HO4 := Lib.hid (HO.out.trans HO2.out)
          clear HK4 HK2 HK hB2 hcs HO HO2 HX
          obtain ⟨wq, rfl⟩ : ∃ wo : World, wo = wr := ⟨_, rfl⟩
          go_wp2_with fail
          clear z7 m1
          go_loopw [66] (fun i wr => ∃ k : Nat, k ≤ lg.length ∧ i = .int .i64 k ∧ Hid (BlkC wr gb 3 (bagL c.items.length (fun i => (netF i (rsOf c (s.take j)) - (ofI lt i : Nat)) + (ofI (lg.take k) i : Nat)))) ∧ Hid (Only (fun b => b = gb) wq wr)) (fun i _ => lg.length - (intOf i).toNat)
          case atStart => exact ⟨0, by omega, rfl, Lib.hid (by simpa [ofI_nil] using HK3.out), Lib.hid (Only.refl _ _)⟩
          case round =>
            clear HK3
            obtain ⟨k, hk, rfl, HK2, HO2⟩ := hrel
            have hgl := HK2.out.lt
            have hos := HO2.out.size
            skip
            by_cases hlt2 : k < lg.length
            · have hB2 := (HO4.out.trans HO2.out).below HBW.out HBW.out.size (fun k hk => by omega)
              obtain ⟨b3, cap3, hv3, hb3, y0, y1⟩ := AmtsAt.at_ (HR.out.give.below hB2) k hlt2
              injection hv3 with e1 e2 e3
              clear e2 e3
              have hit := HGR.out.give.all lg[k] (List.getElem_mem hlt2)
              have HST := Lib.hid (give_step lg k hlt2 (fun i => netF i (rsOf c (s.take j)) - (ofI lt i : Nat)))
              have hnl := netF_le lg[k].item (rsOf c (s.take j)) (rsOf_good HG.out _)
              have hrl := rsOf_len c (s.take j)
              rw [List.length_take] at hrl
              have hol := ofI_le HGR.out.give lg[k].item
              have hol2 := ofI_take_le lg k lg[k].item
              have hol3 := ofI_le HGR.out.take lg[k].item
              simp only [] at hit hol hol2 hol3 y0 y1
              generalize lg[k] = x at *
              obtain ⟨xi, xn⟩ := x
              simp only [] at hit hol hol2 hol3 y0 y1 hnl HST
              obtain ⟨z, hz⟩ : ∃ z, netF xi (rsOf c (s.take j)) - (ofI lt xi : Nat) + (ofI (lg.take k) xi : Nat) = z := ⟨_, rfl⟩
              have hzl : -100000000 ≤ z ∧ z ≤ 100000000 := by omega
              have y2 := HK2.out.cell xi
              rw [bagL_at _ _ _ hit.1, hz] at y2
              have y3 := HK2.out.frozen xi
              rw [hz] at HST
              have hgne : gb ≠ wr.heap.size := by omega
              have i1 : (0 : Int) ≤ (xi : Int) := by omega
              have i2 : (xi : Int) < (c.items.length : Int) := by omega
              have HE1 := Lib.hid e1
              clear hz hnl hrl hol hol2 hol3 e1 hB2
              rw [HE1.out]
              go_wp2_with fail
              go_region
              go_wp2_with fail
              go_roundw
              case rel =>
                refine ⟨k + 1, by omega, by go_num, Lib.hid ?_, Lib.hid ((HO2.out.set (p := ⟨gb, xi, none⟩) rfl _).alloc _).drew⟩
                rw [← HST.out, ← bagL_set]
                exact ((HK2.out.set xi _).alloc _).drew
              case measure => simp [intOf]; omega
            · have HX3 : Hid (BoxC wr w.heap.size (.slice ai c.items.length ci) (.slice (some ⟨b2, 0, none⟩) c.rules.length cr)) := Lib.hid (by
                have hx := HX2.out
                have hnb : ¬ (fun b => b = gb) w.heap.size := by simp only []; omega
                exact ⟨Nat.lt_of_lt_of_le hx.lt HO2.out.size, (HO2.out.cell (p := ⟨w.heap.size, 0, none⟩) hnb hx.lt).trans hx.c0, (HO2.out.cell (p := ⟨w.heap.size, 1, none⟩) hnb hx.lt).trans hx.c1, (HO2.out.cell (p := ⟨w.heap.size, 2, none⟩) hnb hx.lt).trans hx.c2, (HO2.out.cell (p := ⟨w.heap.size, 3, none⟩) hnb hx.lt).trans hx.c3⟩)
              have HKF : Hid (BlkC wr gb 3 (bagL c.items.length (fun i => netF i (rsOf c (s.take (j + 1)))))) := Lib.hid (by
                have h9 := HK2.out
                rw [List.take_of_length_le (show lg.length ≤ k by omega)] at h9
                rw [bagL_congr _ _ (fun i => netF i (rsOf c (s.take j)) - (ofI lt i : Nat) + (ofI lg i : Nat)) (fun i _ => by rw [HTK.out, netF_snoc]; unfold effI; simp only []; omega)]
                exact h9)
              skip
              have HOF := Lib.hid (HO4.out.trans HO2.out)
              clear HK2 HO2 HO4 HX2
              go_wp2_with fail
              go_roundw
              case rel => exact ⟨j + 1, by omega, by go_num, HKF, HOF, HX3⟩
              case measure => simp [intOf]; omega
    · have h9 := HK.out
      rw [List.take_of_length_le (show s.length ≤ j by omega)] at h9
      have H9 := Lib.hid h9
      clear h9
      skip
      skip
      skip
      skip
      go_wp2_with fail
      go_end0
      exact ⟨⟨_, rfl⟩, H9.out, HO.out⟩
set_option maxRecDepth 100000 in
set_option maxHeartbeats 4000000 in
theorem perform_need (vi vr vs : Value) (c : Cat) (s : List Nat) (gb gn : Nat) (w0 w : World) (hc : CatAt w0 vi vr c) (hg : Good c) (hs : ∀ W', Only (fun b => b = gb ∨ b = gn) w W' → NatsOf W' vs s) (hB : Below w0.heap.size w0 w) (hgb : w0.heap.size ≤ gb) (hin : ∀ i ∈ s, i < c.rules.length) (hl : s.length ≤ 1000)
    (hb : BlkC w gb 3 (bagL c.items.length (fun _ => 0))) (hgn : w0.heap.size ≤ gn) (hne : gb ≠ gn) (hb2 : BlkC w gn 3 (bagL c.items.length (fun _ => 0))) :
    Calls Tryz.prog 31 #[catV vi vr, vs, .slice (some ⟨gb, 0, none⟩) c.items.length c.items.length, .slice (some ⟨gn, 0, none⟩) c.items.length c.items.length] w fun e w' => (∃ v, e = .returned v) ∧ BlkC w' gb 3 (bagL c.items.length (fun i => netF i (rsOf c s))) ∧ BlkC w' gn 3 (bagL c.items.length (fun i => needF i (rsOf c s))) ∧ Only (fun b => b = gb ∨ b = gn) w w' := by
  obtain ⟨ai, ci, rfl, hi1, hi2⟩ := hc.items.form
  obtain ⟨ar, cr, rfl, hr1, hr2⟩ := hc.rules.form
  obtain ⟨as_, cs, rfl, hs1, hs2⟩ := (hs w (Only.refl _ _)).form
  have HC := Lib.hid hc
  have HS := Lib.hid hs
  have HG := Lib.hid hg
  have HIN := Lib.hid hin
  have HBW := Lib.hid hB
  have HBB := Lib.hid hb
  have hli := hg.items
  have hlr := hg.rules
  have hlt0 := hb.lt
  have HBN := Lib.hid hb2
  have hlt1 := hb2.lt
  clear hc hs hg hin hB hb hb2
  unfold catV
  go_enter Tryz.func31, Tryz.ntmps31
  go_wp2_with fail
  go_loopw [16] (fun i wr => ∃ j : Nat, j ≤ s.length ∧ i = .int .i64 j ∧ Hid (BlkC wr gb 3 (bagL c.items.length (fun i => netF i (rsOf c (s.take j))))) ∧ Hid (Only (fun b => b = gb ∨ b = gn) w wr) ∧ Hid (BoxC wr w.heap.size (.slice ai c.items.length ci) (.slice ar c.rules.length cr)) ∧ Hid (BlkC wr gn 3 (bagL c.items.length (fun i => needF i (rsOf c (s.take j)))))) (fun i _ => s.length - (intOf i).toNat)
  case atStart => exact ⟨0, by omega, rfl, Lib.hid (by simpa [rsOf, netF] using HBB.out.alloc _), Lib.hid (Only.of_below ((Below.refl _ _).alloc (Nat.le_refl _) _)), Lib.hid (BoxC.new _ _ _), Lib.hid (by simpa [rsOf, needF, needR] using HBN.out.alloc _)⟩
  case round =>
    obtain ⟨j, hj, rfl, HK, HO, HX, HN⟩ := hrel
    by_cases hlt : j < s.length
    · have hB0 := HO.out.below HBW.out HBW.out.size (fun k hk => by omega)
      obtain ⟨b1, cap1, hv1, hb1, n0⟩ := NatsOf.at_ (HS.out _ HO.out) j hlt
      injection hv1 with e1 e2 e3
      subst e1
      clear e2 e3
      have hsj := HIN.out s[j] (List.getElem_mem hlt)
      obtain ⟨b2, cap2, p, hv2, hb2, hr, hcs0⟩ := RulesAt.at_ HC.out.rules s[j] hsj
      have hcs := hcs0.below hB0 hb2
      injection hv2 with e1 e2 e3
      subst e1
      clear e2 e3
      have HGR := Lib.hid (HG.out.each c.rules[s[j]] (List.getElem_mem hsj))
      have HTK := Lib.hid (rsOf_take c s j hlt hsj)
      have z6 := hcs.c6
      have z7 := hcs.c7
      have HCS := Lib.hid hcs0
      have HR := Lib.hid hr
      have ht1 := hr.t1
      have hg1 := hr.g1
      have m1 := HX.out.c1
      have hxl := HX.out.lt
      have hgl0 := HK.out.lt
      have hgl1 := HN.out.lt
      obtain ⟨wo, rfl⟩ : ∃ wo : World, wo = wr := ⟨_, rfl⟩
      clear hr hcs hcs0 hB0
      generalize c.rules[s[j]] = r at *
      generalize s[j] = sj at *
      obtain ⟨rn, rs, rt, ro, lt, lg, lb⟩ := r
      simp only [] at z6 z7 ht1 hg1
      have hl1 := HGR.out.take.len
      have hl2 := HGR.out.give.len
      simp only [] at hl1 hl2
      go_wp2_with fail
      clear n0 z6 z7 m1 hb1
      go_loopw [27] (fun i wr => ∃ k : Nat, k ≤ lt.length ∧ i = .int .i64 k ∧ Hid (BlkC wr gb 3 (bagL c.items.length (fun i => netF i (rsOf c (s.take j)) - (ofI (lt.take k) i : Nat)))) ∧ Hid (Only (fun b => b = gb ∨ b = gn) wo wr) ∧ Hid (BlkC wr gn 3 (bagL c.items.length (fun i => max (needF i (rsOf c (s.take j))) ((ofI (lt.take k) i : Nat) - netF i (rsOf c (s.take j))))))) (fun i _ => lt.length - (intOf i).toNat)
      case atStart => exact ⟨0, by omega, rfl, Lib.hid (by simpa [ofI_nil] using HK.out), Lib.hid (Only.refl _ _), Lib.hid (by rw [bagL_congr _ _ (fun i => needF i (rsOf c (s.take j))) (fun i _ => by rw [List.take_zero, ofI_nil]; have := needF_net i (rsOf c (s.take j)); omega)]; exact HN.out)⟩
      case round =>
        obtain ⟨k, hk, rfl, HK2, HO2, HN2⟩ := hrel
        have hgl := HK2.out.lt
        have hos := HO2.out.size
        have hgl3 := HN2.out.lt
        by_cases hlt2 : k < lt.length
        · have hB2 := (HO.out.trans HO2.out).below HBW.out HBW.out.size (fun k hk => by omega)
          obtain ⟨b3, cap3, hv3, hb3, y0, y1⟩ := AmtsAt.at_ (HR.out.take.below hB2) k hlt2
          injection hv3 with e1 e2 e3
          clear e2 e3
          have hit := HGR.out.take.all lt[k] (List.getElem_mem hlt2)
          have HST := Lib.hid (take_step lt k hlt2 (fun i => netF i (rsOf c (s.take j))))
          have HNT := Lib.hid (need_step lt k hlt2 (fun i => netF i (rsOf c (s.take j))) (fun i => needF i (rsOf c (s.take j))))
          have hnl := netF_le lt[k].item (rsOf c (s.take j)) (rsOf_good HG.out _)
          have hnn := needF_le lt[k].item (rsOf c (s.take j)) (rsOf_good HG.out _)
          have hn0 := needF_nonneg lt[k].item (rsOf c (s.take j))
          have hrl := rsOf_len c (s.take j)
          rw [List.length_take] at hrl
          have hol := ofI_le HGR.out.take lt[k].item
          have hol2 := ofI_take_le lt k lt[k].item
          simp only [] at hit hol hol2 y0 y1
          generalize lt[k] = x at *
          obtain ⟨xi, xn⟩ := x
          simp only [] at hit hol hol2 y0 y1 hnl HST HNT hnn hn0
          obtain ⟨z2, hz2⟩ : ∃ z2, max (needF xi (rsOf c (s.take j))) ((ofI (lt.take k) xi : Nat) - netF xi (rsOf c (s.take j))) = z2 := ⟨_, rfl⟩
          obtain ⟨z, hz⟩ : ∃ z, netF xi (rsOf c (s.take j)) - (ofI (lt.take k) xi : Nat) = z := ⟨_, rfl⟩
          have hzl : -100000000 ≤ z ∧ z ≤ 100000000 := by omega
          have hzl2 : -100000000 ≤ z2 ∧ z2 ≤ 100000000 := by omega
          have y2 := HK2.out.cell xi
          rw [bagL_at _ _ _ hit.1, hz] at y2
          have y3 := HK2.out.frozen xi
          rw [hz] at HST
          rw [hz, hz2] at HNT
          have y4 := HN2.out.cell xi
          rw [bagL_at _ _ _ hit.1, hz2] at y4
          have y5 := HN2.out.frozen xi
          have hgne2 : gn ≠ wr.heap.size := by omega
          have hgne : gb ≠ wr.heap.size := by omega
          have i1 : (0 : Int) ≤ (xi : Int) := by omega
          have i2 : (xi : Int) < (c.items.length : Int) := by omega
          have HE1 := Lib.hid e1
          clear hz hnl hrl hol hol2 e1 hB2 hz2 hnn hn0
          rw [HE1.out]
          go_wp2_with fail
          go_region
          go_wp2_with fail
          obtain ⟨w7, hw7⟩ : ∃ w7, ((wr.setCell ⟨gb, xi, none⟩ (.int .i64 (z - (xn : Int)))).alloc (.cells #[.int .i64 (xi : Int), .int .i64 (xn : Int)] 88)).drew = w7 := ⟨_, rfl⟩
          have HK3 : Hid (BlkC w7 gb 3 (bagL c.items.length (fun i => netF i (rsOf c (s.take j)) - (ofI (lt.take (k + 1)) i : Nat)))) := Lib.hid (by
            rw [← hw7, ← HST.out, ← bagL_set]
            exact ((HK2.out.set xi _).alloc _).drew)
          have HN3 : Hid (BlkC w7 gn 3 (bagL c.items.length (fun i => max (needF i (rsOf c (s.take j))) ((ofI (lt.take k) i : Nat) - netF i (rsOf c (s.take j)))))) := Lib.hid (by
            rw [← hw7]
            exact ((HN2.out.far (p := ⟨gb, xi, none⟩) (Ne.symm hne) _).alloc _).drew)
          have HO3 : Hid (Only (fun b => b = gb ∨ b = gn) wo w7) := Lib.hid (by
            rw [← hw7]
            exact ((HO2.out.set (p := ⟨gb, xi, none⟩) (.inl rfl) _).alloc _).drew)
          have d0 : w7.cell? ⟨wr.heap.size, 0, none⟩ = some (.int .i64 (xi : Int)) := by
            have h9 := (BlkC.new (wr.setCell ⟨gb, xi, none⟩ (.int .i64 (z - (xn : Int)))) 88 [.int .i64 (xi : Int), .int .i64 (xn : Int)]).drew.cell 0
            rw [hw7] at h9
            simpa using h9
          have d1 : w7.cell? ⟨wr.heap.size, 1, none⟩ = some (.int .i64 (xn : Int)) := by
            have h9 := (BlkC.new (wr.setCell ⟨gb, xi, none⟩ (.int .i64 (z - (xn : Int)))) 88 [.int .i64 (xi : Int), .int .i64 (xn : Int)]).drew.cell 1
            rw [hw7] at h9
            simpa using h9
          have d2 : w7.cell? ⟨gb, xi, none⟩ = some (.int .i64 (z - (xn : Int))) := by
            have h9 := HK3.out.cell xi
            rw [← HST.out, bagL_at _ _ _ hit.1] at h9
            simpa using h9
          have d3 : w7.cell? ⟨gn, xi, none⟩ = some (.int .i64 z2) := by
            rw [← hw7]
            have h9 := (((HN2.out.far (p := ⟨gb, xi, none⟩) (Ne.symm hne) (.int .i64 (z - (xn : Int)))).alloc (.cells #[.int .i64 (xi : Int), .int .i64 (xn : Int)] 88)).drew).cell xi
            rw [h9, ← HN2.out.cell xi]
            exact y4
          have d4 := HN3.out.frozen xi
          rw [hw7]
          clear hw7 y0 y1 y2 y3 y4 y5
          go_region
          go_wp2_with fail
          go_roundw
          case rel =>
            refine ⟨k + 1, by omega, by go_num, Lib.hid ((HK3.out.far hne _).drew), Lib.hid ((HO3.out.set (p := ⟨gn, xi, none⟩) (.inr rfl) _).drew), Lib.hid ?_⟩
            rw [← HNT.out, ← bagL_set]
            exact (HN3.out.set xi _).drew
          case measure => simp [intOf]; omega
        · have HK4 := HK2.out
          rw [List.take_of_length_le (show lt.length ≤ k by omega)] at HK4
          have HK3 := Lib.hid HK4
          have HN4 := HN2.out
          rw [List.take_of_length_le (show lt.length ≤ k by omega)] at HN4
          have HN3 := Lib.hid HN4
          have hB2 := (HO.out.trans HO2.out).below HBW.out HBW.out.size (fun k hk => by omega)
          have hcs := HCS.out.below hB2 hb2
          have z7 := hcs.c7
          simp only [] at z7
          have HX2 : Hid (BoxC wr w.heap.size (.slice ai c.items.length ci) (.slice (some ⟨b2, 0, none⟩) c.rules.length cr)) := Lib.hid (by
            have hx := HX.out
            have hnb : ¬ (fun b => b = gb ∨ b = gn) w.heap.size := by simp only []; omega
            exact ⟨Nat.lt_of_lt_of_le hx.lt HO2.out.size, (HO2.out.cell (p := ⟨w.heap.size, 0, none⟩) hnb hx.lt).trans hx.c0, (HO2.out.cell (p := ⟨w.heap.size, 1, none⟩) hnb hx.lt).trans hx.c1, (HO2.out.cell (p := ⟨w.heap.size, 2, none⟩) hnb hx.lt).trans hx.c2, (HO2.out.cell (p := ⟨w.heap.size, 3, none⟩) hnb hx.lt).trans hx.c3⟩)
          have m1 := HX2.out.c1
          have HO4 := Lib.hid (HO.out.trans HO2.out)
          clear HK4 HK2 HK hB2 hcs HO HO2 HX HN4 HN2 HN
          obtain ⟨wq, rfl⟩ : ∃ wo : World, wo = wr := ⟨_, rfl⟩
          go_wp2_with fail
          clear z7 m1
          go_loopw [66] (fun i wr => ∃ k : Nat, k ≤ lg.length ∧ i = .int .i64 k ∧ Hid (BlkC wr gb 3 (bagL c.items.length (fun i => (netF i (rsOf c (s.take j)) - (ofI lt i : Nat)) + (ofI (lg.take k) i : Nat)))) ∧ Hid (Only (fun b => b = gb ∨ b = gn) wq wr) ∧ Hid (BlkC wr gn 3 (bagL c.items.length (fun i => max (needF i (rsOf c (s.take j))) ((ofI lt i : Nat) - netF i (rsOf c (s.take j))))))) (fun i _ => lg.length - (intOf i).toNat)
          case atStart => exact ⟨0, by omega, rfl, Lib.hid (by simpa [ofI_nil] using HK3.out), Lib.hid (Only.refl _ _), HN3⟩
          case round =>
            clear HK3 HN3
            obtain ⟨k, hk, rfl, HK2, HO2, HN2⟩ := hrel
            have hgl := HK2.out.lt
            have hos := HO2.out.size
            have hgl3 := HN2.out.lt
            by_cases hlt2 : k < lg.length
            · have hB2 := (HO4.out.trans HO2.out).below HBW.out HBW.out.size (fun k hk => by omega)
              obtain ⟨b3, cap3, hv3, hb3, y0, y1⟩ := AmtsAt.at_ (HR.out.give.below hB2) k hlt2
              injection hv3 with e1 e2 e3
              clear e2 e3
              have hit := HGR.out.give.all lg[k] (List.getElem_mem hlt2)
              have HST := Lib.hid (give_step lg k hlt2 (fun i => netF i (rsOf c (s.take j)) - (ofI lt i : Nat)))
              have hnl := netF_le lg[k].item (rsOf c (s.take j)) (rsOf_good HG.out _)
              have hrl := rsOf_len c (s.take j)
              rw [List.length_take] at hrl
              have hol := ofI_le HGR.out.give lg[k].item
              have hol2 := ofI_take_le lg k lg[k].item
              have hol3 := ofI_le HGR.out.take lg[k].item
              simp only [] at hit hol hol2 hol3 y0 y1
              generalize lg[k] = x at *
              obtain ⟨xi, xn⟩ := x
              simp only [] at hit hol hol2 hol3 y0 y1 hnl HST
              obtain ⟨z, hz⟩ : ∃ z, netF xi (rsOf c (s.take j)) - (ofI lt xi : Nat) + (ofI (lg.take k) xi : Nat) = z := ⟨_, rfl⟩
              have hzl : -100000000 ≤ z ∧ z ≤ 100000000 := by omega
              have y2 := HK2.out.cell xi
              rw [bagL_at _ _ _ hit.1, hz] at y2
              have y3 := HK2.out.frozen xi
              rw [hz] at HST
              have hgne : gb ≠ wr.heap.size := by omega
              have i1 : (0 : Int) ≤ (xi : Int) := by omega
              have i2 : (xi : Int) < (c.items.length : Int) := by omega
              have HE1 := Lib.hid e1
              clear hz hnl hrl hol hol2 hol3 e1 hB2
              rw [HE1.out]
              go_wp2_with fail
              go_region
              go_wp2_with fail
              go_roundw
              case rel =>
                refine ⟨k + 1, by omega, by go_num, Lib.hid ?_, Lib.hid ((HO2.out.set (p := ⟨gb, xi, none⟩) (.inl rfl) _).alloc _).drew, Lib.hid ((HN2.out.far (p := ⟨gb, xi, none⟩) (Ne.symm hne) _).alloc _).drew⟩
                rw [← HST.out, ← bagL_set]
                exact ((HK2.out.set xi _).alloc _).drew
              case measure => simp [intOf]; omega
            · have HX3 : Hid (BoxC wr w.heap.size (.slice ai c.items.length ci) (.slice (some ⟨b2, 0, none⟩) c.rules.length cr)) := Lib.hid (by
                have hx := HX2.out
                have hnb : ¬ (fun b => b = gb ∨ b = gn) w.heap.size := by simp only []; omega
                exact ⟨Nat.lt_of_lt_of_le hx.lt HO2.out.size, (HO2.out.cell (p := ⟨w.heap.size, 0, none⟩) hnb hx.lt).trans hx.c0, (HO2.out.cell (p := ⟨w.heap.size, 1, none⟩) hnb hx.lt).trans hx.c1, (HO2.out.cell (p := ⟨w.heap.size, 2, none⟩) hnb hx.lt).trans hx.c2, (HO2.out.cell (p := ⟨w.heap.size, 3, none⟩) hnb hx.lt).trans hx.c3⟩)
              have HKF : Hid (BlkC wr gb 3 (bagL c.items.length (fun i => netF i (rsOf c (s.take (j + 1)))))) := Lib.hid (by
                have h9 := HK2.out
                rw [List.take_of_length_le (show lg.length ≤ k by omega)] at h9
                rw [bagL_congr _ _ (fun i => netF i (rsOf c (s.take j)) - (ofI lt i : Nat) + (ofI lg i : Nat)) (fun i _ => by rw [HTK.out, netF_snoc]; unfold effI; simp only []; omega)]
                exact h9)
              have HNF : Hid (BlkC wr gn 3 (bagL c.items.length (fun i => needF i (rsOf c (s.take (j + 1)))))) := Lib.hid (by
                have h9 := HN2.out
                rw [bagL_congr _ _ (fun i => max (needF i (rsOf c (s.take j))) ((ofI lt i : Nat) - netF i (rsOf c (s.take j)))) (fun i _ => by rw [HTK.out, needF_snoc])]
                exact h9)
              have HOF := Lib.hid (HO4.out.trans HO2.out)
              clear HK2 HO2 HO4 HX2 HN2
              go_wp2_with fail
              go_roundw
              case rel => exact ⟨j + 1, by omega, by go_num, HKF, HOF, HX3, HNF⟩
              case measure => simp [intOf]; omega
    · have h9 := HK.out
      rw [List.take_of_length_le (show s.length ≤ j by omega)] at h9
      have H9 := Lib.hid h9
      clear h9
      have h9 := HN.out
      rw [List.take_of_length_le (show s.length ≤ j by omega)] at h9
      have H8 := Lib.hid h9
      clear h9
      go_wp2_with fail
      go_end0
      exact ⟨⟨_, rfl⟩, H9.out, H8.out, HO.out⟩
end Go.Proofs.YtfpcgjgkbniofaaGreatDoor
