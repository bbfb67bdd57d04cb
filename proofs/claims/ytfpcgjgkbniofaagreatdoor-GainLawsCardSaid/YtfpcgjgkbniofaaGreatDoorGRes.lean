/- laws.results: the iterator over the results of the players' rules, for every round that keeps its word. -/
import Derived.Test.YtfpcgjgkbniofaaGreatDoorGSeq
import Derived.Test.YtfpcgjgkbniofaaGreatDoorGFindJ
import Derived.Test.YtfpcgjgkbniofaaGreatDoorGAppI
import Derived.BigRegion
set_option linter.unusedVariables false
set_option linter.unusedSimpArgs false
namespace Go.Proofs.YtfpcgjgkbniofaaGreatDoor
open Go.RowKit Go.Shelf
attribute [local go_sem] Oper.semAt_some

/-- what a result changes -/
def effF (lt lg : List Amt) (i : Nat) : Int := (ofI lg i : Nat) - (ofI lt i : Nat)
def outsR (r : Rul) : List (List Amt) := if 1 < r.of_ then [r.give, r.back] else [r.give]
def resR (j : Nat) (r : Rul) : List (Nat × (Nat → Int)) := if r.spawn then [] else (outsR r).map (fun l => (j, effF r.take l))
def resT : Nat → List Rul → List (Nat × (Nat → Int))
  | _, [] => []
  | j, r :: rs => resR j r ++ resT (j + 1) rs
/-- the results of a catalog -/
def resL (c : Cat) : List (Nat × (Nat → Int)) := resT 0 c.rules
theorem resT_drop (c : Cat) (j : Nat) (h : j < c.rules.length) : resT j (c.rules.drop j) = resR j c.rules[j] ++ resT (j + 1) (c.rules.drop (j + 1)) := by
  rw [List.drop_eq_getElem_cons h]
  rfl
theorem resT_mem : ∀ (rs : List Rul) (j : Nat) (x : Nat × (Nat → Int)), x ∈ resT j rs → ∃ r ∈ rs, ∃ l ∈ outsR r, x.2 = effF r.take l ∧ r.spawn = false ∧ ∃ h : x.1 - j < rs.length, j ≤ x.1 ∧ rs[x.1 - j] = r
  | [], j, x, h => by simp [resT] at h
  | r :: rs, j, x, h => by
    simp only [resT, List.mem_append] at h
    rcases h with h | h
    · unfold resR at h
      split at h
      · simp at h
      · rename_i hs
        obtain ⟨l, hl, rfl⟩ := List.mem_map.1 h
        exact ⟨r, by simp, l, hl, rfl, by simpa using hs, by simp, Nat.le_refl _, by simp⟩
    · obtain ⟨r', h1, l, h2, h3, h4, h5, h6, h7⟩ := resT_mem rs (j + 1) x h
      refine ⟨r', by simp [h1], l, h2, h3, h4, by simp; omega, by omega, ?_⟩
      have e : x.1 - j = (x.1 - (j + 1)) + 1 := by omega
      simp only [e, List.getElem_cons_succ]
      exact h7
/-- what is still to come -/
def LeftR (S L : List (Nat × (Nat → Int))) (k : Nat) : Prop := k + L.length = S.length ∧ ∀ q (h : q < L.length), S[k + q]? = some L[q]
theorem LeftR.all (S : List (Nat × (Nat → Int))) : LeftR S S 0 := ⟨by simp, fun q h => by rw [Nat.zero_add, List.getElem?_eq_getElem h]⟩
theorem LeftR.skip {S A L : List (Nat × (Nat → Int))} {k : Nat} (h : LeftR S (A ++ L) k) : LeftR S L (k + A.length) := by
  obtain ⟨h1, h2⟩ := h
  rw [List.length_append] at h1
  refine ⟨by omega, fun q hq => ?_⟩
  have := h2 (A.length + q) (by rw [List.length_append]; omega)
  rw [Nat.add_assoc, this, List.getElem_append_right (by omega)]
  simp
theorem LeftR.at_ {S A L : List (Nat × (Nat → Int))} {k : Nat} (h : LeftR S (A ++ L) k) (q : Nat) (hq : q < A.length) : S[k + q]? = some A[q] := by
  have := h.2 q (by rw [List.length_append]; omega)
  rw [this, List.getElem_append_left hq]

/-- what a round has to keep -/
structure EnvR (n0 l bc : Nat) (wc : World) (vi vr : Value) (c : Cat) (J : Nat → World → Prop) (Jx : World → Prop) : Prop where
  hA : ∀ k W W', J k W → Below n0 W W' → J k W'
  hC : CatAt wc vi vr c
  hw : wc.heap.size ≤ n0
  hR : ∀ k W, J k W → n0 ≤ W.heap.size ∧ BoxC W bc vi vr ∧ Below wc.heap.size wc W
  hb : bc < n0 ∧ l < n0
  hY : ∀ (k i : Nat) (f : Nat → Int) (W : World), (resL c)[k]? = some (i, f) → J k W → BlkC W n0 3 (bagL c.items.length f) → YieldAt Fence.wide 29 Tryz.prog l #[.int .i64 (i : Int), .slice (some ⟨n0, 0, none⟩) c.items.length c.items.length] W fun e W' =>
    ((e = .returned (.bool true) ∧ J (k + 1) W') ∨ (e = .returned (.bool false) ∧ Jx W')) ∧ KeepsUp n0 W W'
/-- between two yields -/
structure RSt (n0 n g bR : Nat) (os rc : List Value) (J : World → Prop) (f : Nat → Int) (W : World) : Prop where
  j : J W
  f : BlkC W n0 3 (bagL n f)
  o : BlkC W g 61 os
  r : BlkC W bR 63 rc
theorem RSt.only {n0 n g bR : Nat} {os rc : List Value} {J : World → Prop} {f f' : Nat → Int} {W W' : World} (h : RSt n0 n g bR os rc J f W) (hA : ∀ W W', J W → Below n0 W W' → J W') (ho : Only (fun b => b = n0) W W') (hf : BlkC W' n0 3 (bagL n f')) (hg : n0 < g) (hr : n0 < bR) (hs : n0 ≤ W.heap.size) : RSt n0 n g bR os rc J f' W' :=
  ⟨hA W W' h.j (ho.below (Below.refl _ _) hs (fun k hk => by omega)), hf, h.o.only ho (by omega), h.r.only ho (by omega)⟩
theorem BlkC.up {n0 : Nat} {W W' : World} {b : Nat} {t : TypeId} {cs : List Value} (h : BlkC W b t cs) (hk : KeepsUp n0 W W') (hb : n0 ≤ b) : BlkC W' b t cs := (hk.2 b hb h.lt).trans h
theorem eff_step (lt lg : List Amt) : (fun i => ((ofI lg i : Nat) : Int) - ((ofI lt i : Nat) : Int)) = effF lt lg := rfl
theorem elemOut : Elem Tryz.prog 129 61 1 24 := Elem.mk (z := .slice none 0 0) Tryz.underlying129 (by kernel_rfl) rfl (by decide)
theorem outs_len (r : Rul) : 1 ≤ (outsR r).length ∧ (outsR r).length ≤ 2 := by
  unfold outsR
  split <;> simp
theorem resR_len (j : Nat) (r : Rul) (h : r.spawn = false) : (resR j r).length = (outsR r).length := by
  unfold resR
  rw [h]
  simp
theorem resR_at (j : Nat) (r : Rul) (h : r.spawn = false) (q : Nat) (hq : q < (outsR r).length) : (resR j r)[q]? = some (j, effF r.take (outsR r)[q]) := by
  unfold resR
  rw [h]
  simp [hq]
theorem ofI_bd {n M : Nat} {l : List Amt} (h : GoodL n M 2 l) (i : Nat) : ofI l i ≤ 2 * M := ofI_le h i

theorem own_full1 (w : World) (e : TypeId) (v : Value) : (w.alloc (.cells #[v] e)).ownsRow w.heap.size e 1 (.slice (some ⟨w.heap.size, 0, none⟩) 1 1) 1 [v] :=
  ⟨by simp, .inr ⟨w.heap.size, 1, #[v], rfl, Nat.le_refl _, heap_alloc_new w _, Nat.le_refl _, by unfold maxLen; omega, by simp, by simp⟩⟩
set_option maxRecDepth 100000 in
set_option maxHeartbeats 8000000 in
theorem results1_any {l bc : Nat} {vi vr : Value} {c : Cat} {J : Nat → World → Prop} {Jx : World → Prop} (W0 : World) {wc : World} (E : EnvR W0.heap.size l bc wc vi vr c J Jx) (hg : Good c) (hJ : J 0 W0) :
    Calls Tryz.prog 101 #[.func (.yield l) #[] #[], .pointer (some ⟨bc, 0, none⟩)] W0 fun e W' => (∃ v, e = .returned v) ∧ (J (resL c).length W' ∨ Jx W') := by
  obtain ⟨hz0, hx0, hc0⟩ := E.hR 0 W0 hJ
  obtain ⟨ai, ci, rfl, hi1, hi2⟩ := E.hC.items.form
  obtain ⟨ar, cr, rfl, hr1, hr2⟩ := E.hC.rules.form
  obtain ⟨n0, hn0⟩ : ∃ n, W0.heap.size = n := ⟨_, rfl⟩
  rw [hn0] at E
  have HE := Lib.hid E
  have HG := Lib.hid hg
  have hbl := E.hb
  have hli := hg.items
  have hl1 := hg.some_
  have hlr := hg.rules
  obtain ⟨w1, hw1⟩ : ∃ W, W0.alloc (.cells (bagL c.items.length (fun _ => 0)).toArray 3) = W := ⟨_, rfl⟩
  have hB1 : Below n0 W0 w1 := by rw [← hw1, ← hn0]; exact (Below.refl _ _).alloc (Nat.le_refl _) _
  have HF1 : Hid (BlkC w1 n0 3 (bagL c.items.length (fun _ => 0))) := Lib.hid (by rw [← hw1, ← hn0]; exact BlkC.new _ _ _)
  have HJ1 := Lib.hid (E.hA 0 W0 w1 hJ hB1)
  have hx1 := (E.hR 0 w1 HJ1.out).2.1
  have hmk := run_makeZ c.items.length (by omega) W0
  rw [hw1] at hmk
  have m0 := hx0.c0
  have p1 := hx1.c1
  clear hx0 hc0 hJ E hg hB1 hz0 hx1
  go_enter Tryz.func101, Tryz.ntmps101
  go_wp2_with fail
  clear hmk hw1 m0 p1 hn0
  go_loopw [20] (fun i wr => ∃ (j kj : Nat), j ≤ c.rules.length ∧ i = .int .i64 j ∧ Hid (J kj wr) ∧ Hid (∃ f, BlkC wr n0 3 (bagL c.items.length f)) ∧ Hid (LeftR (resL c) (resT j (c.rules.drop j)) kj)) (fun i _ => c.rules.length - (intOf i).toNat)
  case atStart => exact ⟨0, 0, by omega, rfl, HJ1, Lib.hid ⟨_, HF1.out⟩, Lib.hid (LeftR.all _)⟩
  case round =>
    clear HJ1 HF1
    obtain ⟨j, kj, hj, rfl, HJ, HFk, HL⟩ := hrel
    by_cases hlt : j < c.rules.length
    · obtain ⟨hsz, hbx, hcat⟩ := HE.out.hR kj wr HJ.out
      obtain ⟨b2, cap2, p, hv2, hb2, hr, hcs0⟩ := RulesAt.at_ HE.out.hC.rules j hlt
      injection hv2 with e1 e2 e3
      subst e1
      clear e2 e3
      have HGR := Lib.hid (HG.out.each c.rules[j] (List.getElem_mem hlt))
      have HD := Lib.hid (resT_drop c j hlt)
      have HR := Lib.hid hr
      have hcs := hcs0.below hcat hb2
      clear hcs0
      obtain ⟨c0, c1, c2, c3, c4, c5, c6, c7, c8⟩ := hcs
      have i1 : (0 : Int) ≤ (j : Int) := by omega
      have i2 : (j : Int) < (c.rules.length : Int) := by omega
      have hto := HGR.out.of1
      have hto2 := HGR.out.of2
      clear hbx hcat hr
      generalize c.rules[j] = r at *
      obtain ⟨rn, rs, rt, ro, lt, lg, lb⟩ := r
      simp only [] at c0 c1 c2 c3 c4 c5 c6 c7 c8 hto hto2
      obtain ⟨wx, hwx⟩ : ∃ W, wr.alloc (.cells #[.string ⟨rn.toArray⟩, .bool rs, .int .i64 0, .int .i64 (rt : Int), .int .i64 1, .int .i64 (ro : Int), .slice p.at_ lt.length p.ct, .slice p.ag lg.length p.cg, .slice p.ab lb.length p.cb] 63) = W := ⟨_, rfl⟩
      have hBx : Below wr.heap.size wr wx := by rw [← hwx]; exact (Below.refl _ _).alloc (Nat.le_refl _) _
      have HRB : Hid (BlkC wx wr.heap.size 63 [.string ⟨rn.toArray⟩, .bool rs, .int .i64 0, .int .i64 (rt : Int), .int .i64 1, .int .i64 (ro : Int), .slice p.at_ lt.length p.ct, .slice p.ag lg.length p.cg, .slice p.ab lb.length p.cb]) := Lib.hid (by rw [← hwx]; exact BlkC.new _ _ _)
      have HJx := Lib.hid (HE.out.hA kj wr wx HJ.out (hBx.mono hsz))
      have HFx : Hid (∃ f, BlkC wx n0 3 (bagL c.items.length f)) := Lib.hid (by
        obtain ⟨f, hf⟩ := HFk.out
        exact ⟨f, hf.below hBx hf.lt⟩)
      have hlx : wr.heap.size < wx.heap.size := HRB.out.lt
      have d1 := HRB.out.cell 1
      have d4 := HRB.out.cell 4
      have d5 := HRB.out.cell 5
      have d6 := HRB.out.cell 6
      have d7 := HRB.out.cell 7
      have d8 := HRB.out.cell 8
      simp only [List.getElem?_cons_succ, List.getElem?_cons_zero] at d1 d4 d5 d6 d7 d8
      have hn0r : n0 < wr.heap.size := by obtain ⟨f, hf⟩ := HFk.out; exact hf.lt
      cases rs with
      | true =>
        have HL2 : Hid (LeftR (resL c) (resT (j + 1) (c.rules.drop (j + 1))) kj) := Lib.hid (by have h9 := HL.out; rw [HD.out] at h9; exact h9)
        clear hBx HD HL
        go_wp2_with fail
        go_roundw
        case rel => exact ⟨j + 1, kj, by omega, by go_num, HJx, HFx, HL2⟩
        case measure => simp [intOf]; omega
      | false =>
        by_cases hof : 1 < ro
        · have q1 : decide ((1 : Int) < (ro : Int)) = true := decide_eq_true (by omega)
          have q2 : decide (1 < ro) = true := decide_eq_true hof
          have HO : Hid ((wx.alloc (.cells #[.slice p.ag lg.length p.cg] 61)).ownsRow wx.heap.size 61 1 (.slice (some ⟨wx.heap.size, 0, none⟩) 1 1) 1 [.slice p.ag lg.length p.cg]) := Lib.hid (own_full1 wx 61 (.slice p.ag lg.length p.cg))
          have HBA : Hid (Below wx.heap.size wx (wx.alloc (.cells #[.slice p.ag lg.length p.cg] 61))) := Lib.hid ((Below.refl _ _).alloc (Nat.le_refl _) _)
          go_wp2_with (at_builtin; refine wpList_app1 (W0 := wx) (B := wx.heap.size) elemOut rfl _ _ rfl [.slice p.ab lb.length p.cb] 61 (.slice (some ⟨wx.heap.size, 0, none⟩) 1 1) 1 [.slice p.ag lg.length p.cg] rfl (by show Value.slice (some ⟨wx.heap.size + 1, 0, none⟩) 1 1 = _; simp) rfl (by simp [Value.oneCell']) HO.out HBA.out (by simp) (by omega) (by omega) ?_)
          intro g cap w6 HO6 HB6 HOn6 hcap HAT
          obtain ⟨tl, htl⟩ := tail_of_own HO6.out
          obtain ⟨os, hos⟩ : ∃ os, ([.slice p.ag lg.length p.cg, .slice p.ab lb.length p.cb] : List Value) ++ tl = os := ⟨_, rfl⟩
          rw [hos] at htl
          have HOut := Lib.hid htl
          have hgx : wx.heap.size ≤ g := by
            rcases HAT.out with h | h
            · have := HO.out.lt g h; omega
            · omega
          have HOU : Hid (∀ o, o < 2 → ∃ oa oc lo, os[o]? = some (.slice oa lo.length oc) ∧ Hid (AmtsAt wc (.slice oa lo.length oc) lo) ∧ Hid (GoodL c.items.length 1000 2 lo) ∧ (resL c)[kj + o]? = some (j, effF lt lo)) := Lib.hid (fun o ho => by
            have hl := HL.out
            rw [HD.out] at hl
            have hr2 : resR j ⟨rn, false, rt, ro, lt, lg, lb⟩ = [(j, effF lt lg), (j, effF lt lb)] := by unfold resR outsR; simp [hof]
            rw [hr2] at hl
            match o, ho with
            | 0, _ => exact ⟨p.ag, p.cg, lg, by rw [← hos]; rfl, Lib.hid HR.out.give, Lib.hid HGR.out.give, hl.at_ 0 (by simp)⟩
            | 1, _ => exact ⟨p.ab, p.cb, lb, by rw [← hos]; rfl, Lib.hid HR.out.back, Lib.hid HGR.out.back, hl.at_ 1 (by simp)⟩)
          have HL2 : Hid (LeftR (resL c) (resT (j + 1) (c.rules.drop (j + 1))) (kj + 2)) := Lib.hid (by
            have hl := HL.out
            rw [HD.out] at hl
            have hr2 : resR j ⟨rn, false, rt, ro, lt, lg, lb⟩ = [(j, effF lt lg), (j, effF lt lb)] := by unfold resR outsR; simp [hof]
            rw [hr2] at hl
            exact hl.skip)
          clear hos htl HO6 HOn6 HAT HO HBA HL HD
          go_wp2_with fail
          have hm2 : 2 ≤ 2 := by omega
          obtain ⟨wro, rfl⟩ : ∃ wo : World, wo = wr := ⟨_, rfl⟩
          obtain ⟨bR, hbR⟩ : ∃ b, wro.heap.size = b := ⟨_, rfl⟩
          rw [hbR] at HRB
          obtain ⟨rc, hrc⟩ : ∃ l, ([.string ⟨rn.toArray⟩, .bool false, .int .i64 0, .int .i64 (rt : Int), .int .i64 1, .int .i64 (ro : Int), .slice p.at_ lt.length p.ct, .slice p.ag lg.length p.cg, .slice p.ab lb.length p.cb] : List Value) = l := ⟨_, rfl⟩
          have HRC6 : Hid (rc[6]? = some (.slice p.at_ lt.length p.ct)) := Lib.hid (by rw [← hrc]; rfl)
          rw [hrc] at HRB
          have HRST : Hid (∃ f, RSt n0 c.items.length g bR os rc (J kj) f w6) := Lib.hid (by
            obtain ⟨f, hf⟩ := HFx.out
            exact ⟨f, HE.out.hA kj wx w6 HJx.out (HB6.out.mono (by omega)), hf.below HB6.out hf.lt, HOut.out, HRB.out.below HB6.out HRB.out.lt⟩)
          rw [hbR]
          have hbRn : n0 < bR := by omega
          have hgn : n0 < g := by omega
          clear hbR hrc HRB HOut HB6 HFx HJx hwx hBx d1 d4 d5 d6 d7 d8
          go_loopw [42] (fun i wr => ∃ o : Nat, o ≤ 2 ∧ i = .int .i64 o ∧ Hid (∃ f, RSt n0 c.items.length g bR os rc (J (kj + o)) f wr)) (fun i _ => 2 - (intOf i).toNat)
          case atStart => exact ⟨0, by omega, rfl, HRST⟩
          case round =>
            clear HRST
            obtain ⟨o, ho, rfl, HI⟩ := hrel
            by_cases hlto : o < 2
            · obtain ⟨oa, oc, lo, hvo, HAMo, HGLo, hko⟩ := HOU.out o hlto
              have HKO := Lib.hid hko
              obtain ⟨ko, hkoe⟩ : ∃ k, kj + o = k := ⟨_, rfl⟩
              rw [hkoe] at HI HKO
              have HKE : Hid (kj + (o + 1) = ko + 1) := Lib.hid (by omega)
              obtain ⟨f0, hI⟩ := HI.out
              have hszI := (HE.out.hR ko wr hI.j).1
              have v0 := hI.o.cell o
              rw [hvo] at v0
              obtain ⟨W4, hW4⟩ : ∃ W4, wr.setCells n0 0 (List.replicate c.items.length (.int .i64 0)) = W4 := ⟨_, rfl⟩
              have hO4 : Only (fun b => b = n0) wr W4 := by rw [← hW4]; exact clear_only wr n0 0 _ 0 wr
              have hbag4 : BlkC W4 n0 3 (bagL c.items.length (fun _ => 0)) := by
                have h9 := clear_blk hI.f
                rw [bagL_len, hW4] at h9
                exact h9
              have HQ4 : Hid (RSt n0 c.items.length g bR os rc (J ko) (fun _ => 0) W4) := Lib.hid (hI.only (HE.out.hA ko) hO4 hbag4 hgn hbRn hszI)
              have hclear : ∀ ty, (Builtin.clear_ #[22] ty #[.slice (some ⟨n0, 0, none⟩) c.items.length c.items.length]).run Tryz.prog wr = .ok (.tuple #[]) W4 := fun ty => by
                rw [← hW4]
                exact Lib.run_clear_slice wr 22 3 ty (.int .i64 0) Tryz.underlying22 zeroZ rfl rfl n0 0 c.items.length c.items.length (by omega) (fun q hq => by rw [Nat.zero_add, hI.f.cell, List.getElem?_eq_getElem (by rw [bagL_len]; exact hq)]; rfl) (fun q hq => hI.f.frozen _)
              have j1 : (0 : Int) ≤ (o : Int) := by omega
              have j2 : (o : Int) < (2 : Int) := by omega
              have jq : decide ((o : Int) < (2 : Int)) = true := decide_eq_true (by omega)
              clear hI HI hko hkoe hvo hO4 hbag4 hW4 hszI
              go_wp2_with fail
              clear hclear v0 j1 j2 jq
              have hlo := HGLo.out.len
              obtain ⟨wo4, rfl⟩ : ∃ wo : World, wo = wr := ⟨_, rfl⟩
              go_loopw [49] (fun i wr => ∃ k : Nat, k ≤ lo.length ∧ i = .int .i64 k ∧ Hid (RSt n0 c.items.length g bR os rc (J ko) (fun i => (0 : Int) + ((ofI (lo.take k) i : Nat) : Int)) wr)) (fun i _ => lo.length - (intOf i).toNat)
              case atStart => exact ⟨0, by omega, rfl, Lib.hid (by simpa [ofI_nil] using HQ4.out)⟩
              case round =>
                clear HQ4
                obtain ⟨k, hk, rfl, HQ⟩ := hrel
                by_cases hlt2 : k < lo.length
                · have hJz := HE.out.hR ko wr HQ.out.j
                  have hsz3 := hJz.1
                  have hams := HAMo.out.below hJz.2.2
                  obtain ⟨b3, cap3, hv3, hb3, y0, y1⟩ := AmtsAt.at_ hams k hlt2
                  injection hv3 with e1 e2 e3
                  clear e2 e3
                  have hit := HGLo.out.all lo[k] (List.getElem_mem hlt2)
                  have HST := Lib.hid (give_step lo k hlt2 (fun _ => (0 : Int)))
                  have hol := ofI_le HGLo.out lo[k].item
                  have hol2 := ofI_take_le lo k lo[k].item
                  have hbd : True := trivial
                  generalize lo[k] = x at *
                  obtain ⟨xi, xn⟩ := x
                  try simp only [] at hit hol hol2 y0 y1 HST hbd
                  obtain ⟨z, hz⟩ : ∃ z, (0 : Int) + ((ofI (lo.take k) xi : Nat) : Int) = z := ⟨_, rfl⟩
                  have hzl : -100000000 ≤ z ∧ z ≤ 100000000 := by omega
                  have hgl := HQ.out.f.lt
                  have y2 := HQ.out.f.cell xi
                  rw [bagL_at _ _ _ hit.1] at y2
                  try simp only [] at y2
                  rw [hz] at y2
                  have y3 := HQ.out.f.frozen xi
                  rw [hz] at HST
                  have hgne : n0 ≠ wr.heap.size := by omega
                  have i1 : (0 : Int) ≤ (xi : Int) := by omega
                  have i2 : (xi : Int) < (c.items.length : Int) := by omega
                  have HE1 := Lib.hid e1
                  clear hz hol hol2 e1 hJz hams hbd
                  rw [HE1.out]
                  go_wp2_with fail
                  go_region
                  go_wp2_with fail
                  go_roundw
                  case rel =>
                    refine ⟨k + 1, by omega, by go_num, Lib.hid ?_⟩
                    refine HQ.out.only (HE.out.hA ko) ((((Only.refl (fun b => b = n0) wr).set (p := ⟨n0, xi, none⟩) rfl _).alloc _).drew) ?_ hgn hbRn hsz3
                    rw [← HST.out, ← bagL_set]
                    exact ((HQ.out.f.set xi _).alloc _).drew
                  case measure => simp [intOf]; omega
                · have HQ5 : Hid (RSt n0 c.items.length g bR os rc (J ko) (fun i => (0 : Int) + ((ofI lo i : Nat) : Int)) wr) := Lib.hid (by
                    have h9 := HQ.out
                    rw [List.take_of_length_le (show lo.length ≤ k by omega)] at h9
                    exact h9)
                  have z6 := HQ5.out.r.cell 6
                  rw [HRC6.out] at z6
                  have hlt5 := HGR.out.take.len
                  try simp only [] at hlt5
                  clear HQ
                  go_wp2_with fail
                  clear z6
                  obtain ⟨wo5, rfl⟩ : ∃ wo : World, wo = wr := ⟨_, rfl⟩
                  have HAMt := Lib.hid HR.out.take
                  have HGLt := Lib.hid HGR.out.take
                  try simp only [] at HAMt HGLt
                  go_loopw [66] (fun i wr => ∃ k : Nat, k ≤ lt.length ∧ i = .int .i64 k ∧ Hid (RSt n0 c.items.length g bR os rc (J ko) (fun i => (0 : Int) + ((ofI lo i : Nat) : Int) - ((ofI (lt.take k) i : Nat) : Int)) wr)) (fun i _ => lt.length - (intOf i).toNat)
                  case atStart => exact ⟨0, by omega, rfl, Lib.hid (by simpa [ofI_nil] using HQ5.out)⟩
                  case round =>
                    clear HQ5
                    obtain ⟨k, hk, rfl, HQ⟩ := hrel
                    by_cases hlt2 : k < lt.length
                    · have hJz := HE.out.hR ko wr HQ.out.j
                      have hsz3 := hJz.1
                      have hams := HAMt.out.below hJz.2.2
                      obtain ⟨b3, cap3, hv3, hb3, y0, y1⟩ := AmtsAt.at_ hams k hlt2
                      injection hv3 with e1 e2 e3
                      clear e2 e3
                      have hit := HGLt.out.all lt[k] (List.getElem_mem hlt2)
                      have HST := Lib.hid (take_step lt k hlt2 (fun i => (0 : Int) + ((ofI lo i : Nat) : Int)))
                      have hol := ofI_le HGLt.out lt[k].item
                      have hol2 := ofI_take_le lt k lt[k].item
                      have hbd := ofI_le HGLo.out lt[k].item
                      generalize lt[k] = x at *
                      obtain ⟨xi, xn⟩ := x
                      try simp only [] at hit hol hol2 y0 y1 HST hbd
                      obtain ⟨z, hz⟩ : ∃ z, (0 : Int) + ((ofI lo xi : Nat) : Int) - ((ofI (lt.take k) xi : Nat) : Int) = z := ⟨_, rfl⟩
                      have hzl : -100000000 ≤ z ∧ z ≤ 100000000 := by omega
                      have hgl := HQ.out.f.lt
                      have y2 := HQ.out.f.cell xi
                      rw [bagL_at _ _ _ hit.1] at y2
                      try simp only [] at y2
                      rw [hz] at y2
                      have y3 := HQ.out.f.frozen xi
                      rw [hz] at HST
                      have hgne : n0 ≠ wr.heap.size := by omega
                      have i1 : (0 : Int) ≤ (xi : Int) := by omega
                      have i2 : (xi : Int) < (c.items.length : Int) := by omega
                      have HE1 := Lib.hid e1
                      clear hz hol hol2 e1 hJz hams hbd
                      rw [HE1.out]
                      go_wp2_with fail
                      go_region
                      go_wp2_with fail
                      go_roundw
                      case rel =>
                        refine ⟨k + 1, by omega, by go_num, Lib.hid ?_⟩
                        refine HQ.out.only (HE.out.hA ko) ((((Only.refl (fun b => b = n0) wr).set (p := ⟨n0, xi, none⟩) rfl _).alloc _).drew) ?_ hgn hbRn hsz3
                        rw [← HST.out, ← bagL_set]
                        exact ((HQ.out.f.set xi _).alloc _).drew
                      case measure => simp [intOf]; omega
                    · have HQ6 : Hid (RSt n0 c.items.length g bR os rc (J ko) (effF lt lo) wr) := Lib.hid (by
                        have h9 := HQ.out
                        rw [List.take_of_length_le (show lt.length ≤ k by omega)] at h9
                        have e : (fun i => (0 : Int) + ((ofI lo i : Nat) : Int) - ((ofI lt i : Nat) : Int)) = effF lt lo := by funext i; unfold effF; omega
                        rw [e] at h9
                        exact h9)
                      obtain ⟨fn, tmps, assign, body, hyy, hRR⟩ := HE.out.hY ko j (effF lt lo) wr HKO.out HQ6.out.j HQ6.out.f
                      have HRR := Lib.hid hRR
                      clear HQ hRR
                      refine (wpIn_wide (n := 30)).1 ?_
                      gi_wp2
                      refine (wpIn_wide (n := 30)).1 ?_
                      repeat (first | go_values | gi_guarded | gi_step | gi_upon)
                      refine HRR.out.mono ?_
                      rintro e W3 ⟨⟨rfl, hj⟩ | ⟨rfl, hj⟩, hK⟩
                      · have HR3 : Hid (∃ f, RSt n0 c.items.length g bR os rc (J (kj + (o + 1))) f W3) := Lib.hid (by
                          rw [HKE.out]
                          exact ⟨_, hj, HQ6.out.f.up hK (Nat.le_refl _), HQ6.out.o.up hK (by omega), HQ6.out.r.up hK (by omega)⟩)
                        clear hj hK HQ6 hyy HRR HKO HKE
                        simp only []
                        repeat (first | go_values | gi_guarded | gi_step | gi_upon)
                        go_wp2_with fail
                        go_roundw
                        case rel => exact ⟨o + 1, by omega, by go_num, HR3⟩
                        case measure => simp [intOf]; omega
                      · simp only []
                        repeat (first | go_values | gi_guarded | gi_step | gi_upon)
                        exact bodyPost_ret (results_none rfl _ _ _) rfl ⟨⟨_, rfl⟩, .inr hj⟩
            · obtain rfl : o = 2 := by omega
              have HJ9 : Hid (J (kj + 2) wr) := Lib.hid (by obtain ⟨f, hf⟩ := HI.out; exact hf.j)
              have HF9 : Hid (∃ f, BlkC wr n0 3 (bagL c.items.length f)) := Lib.hid (by obtain ⟨f, hf⟩ := HI.out; exact ⟨f, hf.f⟩)
              clear HI HOU
              go_wp2_with fail
              go_roundw
              case rel => exact ⟨j + 1, kj + 2, by omega, by go_num, HJ9, HF9, HL2⟩
              case measure => simp [intOf]; omega
        · have q1 : decide ((1 : Int) < (ro : Int)) = false := decide_eq_false (by omega)
          have q2 : decide (1 < ro) = false := decide_eq_false hof
          obtain ⟨w6, hw6⟩ : ∃ W, wx.alloc (.cells #[.slice p.ag lg.length p.cg] 61) = W := ⟨_, rfl⟩
          have HB6 : Hid (Below wx.heap.size wx w6) := Lib.hid (by rw [← hw6]; exact (Below.refl _ _).alloc (Nat.le_refl _) _)
          obtain ⟨os, hos⟩ : ∃ os, ([.slice p.ag lg.length p.cg] : List Value) = os := ⟨_, rfl⟩
          have HOut : Hid (BlkC w6 wx.heap.size 61 os) := Lib.hid (by rw [← hw6, ← hos]; exact BlkC.new _ _ _)
          have HOU : Hid (∀ o, o < 1 → ∃ oa oc lo, os[o]? = some (.slice oa lo.length oc) ∧ Hid (AmtsAt wc (.slice oa lo.length oc) lo) ∧ Hid (GoodL c.items.length 1000 2 lo) ∧ (resL c)[kj + o]? = some (j, effF lt lo)) := Lib.hid (fun o ho => by
            have hl := HL.out
            rw [HD.out] at hl
            have hr2 : resR j ⟨rn, false, rt, ro, lt, lg, lb⟩ = [(j, effF lt lg)] := by unfold resR outsR; simp [hof]
            rw [hr2] at hl
            match o, ho with
            | 0, _ => exact ⟨p.ag, p.cg, lg, by rw [← hos]; rfl, Lib.hid HR.out.give, Lib.hid HGR.out.give, hl.at_ 0 (by simp)⟩)
          have HL2 : Hid (LeftR (resL c) (resT (j + 1) (c.rules.drop (j + 1))) (kj + 1)) := Lib.hid (by
            have hl := HL.out
            rw [HD.out] at hl
            have hr2 : resR j ⟨rn, false, rt, ro, lt, lg, lb⟩ = [(j, effF lt lg)] := by unfold resR outsR; simp [hof]
            rw [hr2] at hl
            exact hl.skip)
          have hrb6 := HRB.out.below HB6.out HRB.out.lt
          have f4 := hrb6.cell 4
          have f5 := hrb6.cell 5
          simp only [List.getElem?_cons_succ, List.getElem?_cons_zero] at f4 f5
          clear hos HL HD hrb6
          go_wp2_with fail
          clear hw6 f4 f5
          obtain ⟨g, hg⟩ : ∃ g, wx.heap.size = g := ⟨_, rfl⟩
          have hgx : wx.heap.size ≤ g := by omega
          rw [hg] at HOut ⊢
          clear hg
          have hm2 : 1 ≤ 2 := by omega
          obtain ⟨wro, rfl⟩ : ∃ wo : World, wo = wr := ⟨_, rfl⟩
          obtain ⟨bR, hbR⟩ : ∃ b, wro.heap.size = b := ⟨_, rfl⟩
          rw [hbR] at HRB
          obtain ⟨rc, hrc⟩ : ∃ l, ([.string ⟨rn.toArray⟩, .bool false, .int .i64 0, .int .i64 (rt : Int), .int .i64 1, .int .i64 (ro : Int), .slice p.at_ lt.length p.ct, .slice p.ag lg.length p.cg, .slice p.ab lb.length p.cb] : List Value) = l := ⟨_, rfl⟩
          have HRC6 : Hid (rc[6]? = some (.slice p.at_ lt.length p.ct)) := Lib.hid (by rw [← hrc]; rfl)
          rw [hrc] at HRB
          have HRST : Hid (∃ f, RSt n0 c.items.length g bR os rc (J kj) f w6) := Lib.hid (by
            obtain ⟨f, hf⟩ := HFx.out
            exact ⟨f, HE.out.hA kj wx w6 HJx.out (HB6.out.mono (by omega)), hf.below HB6.out hf.lt, HOut.out, HRB.out.below HB6.out HRB.out.lt⟩)
          rw [hbR]
          have hbRn : n0 < bR := by omega
          have hgn : n0 < g := by omega
          clear hbR hrc HRB HOut HB6 HFx HJx hwx hBx d1 d4 d5 d6 d7 d8
          go_loopw [42] (fun i wr => ∃ o : Nat, o ≤ 1 ∧ i = .int .i64 o ∧ Hid (∃ f, RSt n0 c.items.length g bR os rc (J (kj + o)) f wr)) (fun i _ => 1 - (intOf i).toNat)
          case atStart => exact ⟨0, by omega, rfl, HRST⟩
          case round =>
            clear HRST
            obtain ⟨o, ho, rfl, HI⟩ := hrel
            by_cases hlto : o < 1
            · obtain ⟨oa, oc, lo, hvo, HAMo, HGLo, hko⟩ := HOU.out o hlto
              have HKO := Lib.hid hko
              obtain ⟨ko, hkoe⟩ : ∃ k, kj + o = k := ⟨_, rfl⟩
              rw [hkoe] at HI HKO
              have HKE : Hid (kj + (o + 1) = ko + 1) := Lib.hid (by omega)
              obtain ⟨f0, hI⟩ := HI.out
              have hszI := (HE.out.hR ko wr hI.j).1
              have v0 := hI.o.cell o
              rw [hvo] at v0
              obtain ⟨W4, hW4⟩ : ∃ W4, wr.setCells n0 0 (List.replicate c.items.length (.int .i64 0)) = W4 := ⟨_, rfl⟩
              have hO4 : Only (fun b => b = n0) wr W4 := by rw [← hW4]; exact clear_only wr n0 0 _ 0 wr
              have hbag4 : BlkC W4 n0 3 (bagL c.items.length (fun _ => 0)) := by
                have h9 := clear_blk hI.f
                rw [bagL_len, hW4] at h9
                exact h9
              have HQ4 : Hid (RSt n0 c.items.length g bR os rc (J ko) (fun _ => 0) W4) := Lib.hid (hI.only (HE.out.hA ko) hO4 hbag4 hgn hbRn hszI)
              have hclear : ∀ ty, (Builtin.clear_ #[22] ty #[.slice (some ⟨n0, 0, none⟩) c.items.length c.items.length]).run Tryz.prog wr = .ok (.tuple #[]) W4 := fun ty => by
                rw [← hW4]
                exact Lib.run_clear_slice wr 22 3 ty (.int .i64 0) Tryz.underlying22 zeroZ rfl rfl n0 0 c.items.length c.items.length (by omega) (fun q hq => by rw [Nat.zero_add, hI.f.cell, List.getElem?_eq_getElem (by rw [bagL_len]; exact hq)]; rfl) (fun q hq => hI.f.frozen _)
              have j1 : (0 : Int) ≤ (o : Int) := by omega
              have j2 : (o : Int) < (1 : Int) := by omega
              have jq : decide ((o : Int) < (1 : Int)) = true := decide_eq_true (by omega)
              clear hI HI hko hkoe hvo hO4 hbag4 hW4 hszI
              go_wp2_with fail
              clear hclear v0 j1 j2 jq
              have hlo := HGLo.out.len
              obtain ⟨wo4, rfl⟩ : ∃ wo : World, wo = wr := ⟨_, rfl⟩
              go_loopw [49] (fun i wr => ∃ k : Nat, k ≤ lo.length ∧ i = .int .i64 k ∧ Hid (RSt n0 c.items.length g bR os rc (J ko) (fun i => (0 : Int) + ((ofI (lo.take k) i : Nat) : Int)) wr)) (fun i _ => lo.length - (intOf i).toNat)
              case atStart => exact ⟨0, by omega, rfl, Lib.hid (by simpa [ofI_nil] using HQ4.out)⟩
              case round =>
                clear HQ4
                obtain ⟨k, hk, rfl, HQ⟩ := hrel
                by_cases hlt2 : k < lo.length
                · have hJz := HE.out.hR ko wr HQ.out.j
                  have hsz3 := hJz.1
                  have hams := HAMo.out.below hJz.2.2
                  obtain ⟨b3, cap3, hv3, hb3, y0, y1⟩ := AmtsAt.at_ hams k hlt2
                  injection hv3 with e1 e2 e3
                  clear e2 e3
                  have hit := HGLo.out.all lo[k] (List.getElem_mem hlt2)
                  have HST := Lib.hid (give_step lo k hlt2 (fun _ => (0 : Int)))
                  have hol := ofI_le HGLo.out lo[k].item
                  have hol2 := ofI_take_le lo k lo[k].item
                  have hbd : True := trivial
                  generalize lo[k] = x at *
                  obtain ⟨xi, xn⟩ := x
                  try simp only [] at hit hol hol2 y0 y1 HST hbd
                  obtain ⟨z, hz⟩ : ∃ z, (0 : Int) + ((ofI (lo.take k) xi : Nat) : Int) = z := ⟨_, rfl⟩
                  have hzl : -100000000 ≤ z ∧ z ≤ 100000000 := by omega
                  have hgl := HQ.out.f.lt
                  have y2 := HQ.out.f.cell xi
                  rw [bagL_at _ _ _ hit.1] at y2
                  try simp only [] at y2
                  rw [hz] at y2
                  have y3 := HQ.out.f.frozen xi
                  rw [hz] at HST
                  have hgne : n0 ≠ wr.heap.size := by omega
                  have i1 : (0 : Int) ≤ (xi : Int) := by omega
                  have i2 : (xi : Int) < (c.items.length : Int) := by omega
                  have HE1 := Lib.hid e1
                  clear hz hol hol2 e1 hJz hams hbd
                  rw [HE1.out]
                  go_wp2_with fail
                  go_region
                  go_wp2_with fail
                  go_roundw
                  case rel =>
                    refine ⟨k + 1, by omega, by go_num, Lib.hid ?_⟩
                    refine HQ.out.only (HE.out.hA ko) ((((Only.refl (fun b => b = n0) wr).set (p := ⟨n0, xi, none⟩) rfl _).alloc _).drew) ?_ hgn hbRn hsz3
                    rw [← HST.out, ← bagL_set]
                    exact ((HQ.out.f.set xi _).alloc _).drew
                  case measure => simp [intOf]; omega
                · have HQ5 : Hid (RSt n0 c.items.length g bR os rc (J ko) (fun i => (0 : Int) + ((ofI lo i : Nat) : Int)) wr) := Lib.hid (by
                    have h9 := HQ.out
                    rw [List.take_of_length_le (show lo.length ≤ k by omega)] at h9
                    exact h9)
                  have z6 := HQ5.out.r.cell 6
                  rw [HRC6.out] at z6
                  have hlt5 := HGR.out.take.len
                  try simp only [] at hlt5
                  clear HQ
                  go_wp2_with fail
                  clear z6
                  obtain ⟨wo5, rfl⟩ : ∃ wo : World, wo = wr := ⟨_, rfl⟩
                  have HAMt := Lib.hid HR.out.take
                  have HGLt := Lib.hid HGR.out.take
                  try simp only [] at HAMt HGLt
                  go_loopw [66] (fun i wr => ∃ k : Nat, k ≤ lt.length ∧ i = .int .i64 k ∧ Hid (RSt n0 c.items.length g bR os rc (J ko) (fun i => (0 : Int) + ((ofI lo i : Nat) : Int) - ((ofI (lt.take k) i : Nat) : Int)) wr)) (fun i _ => lt.length - (intOf i).toNat)
                  case atStart => exact ⟨0, by omega, rfl, Lib.hid (by simpa [ofI_nil] using HQ5.out)⟩
                  case round =>
                    clear HQ5
                    obtain ⟨k, hk, rfl, HQ⟩ := hrel
                    by_cases hlt2 : k < lt.length
                    · have hJz := HE.out.hR ko wr HQ.out.j
                      have hsz3 := hJz.1
                      have hams := HAMt.out.below hJz.2.2
                      obtain ⟨b3, cap3, hv3, hb3, y0, y1⟩ := AmtsAt.at_ hams k hlt2
                      injection hv3 with e1 e2 e3
                      clear e2 e3
                      have hit := HGLt.out.all lt[k] (List.getElem_mem hlt2)
                      have HST := Lib.hid (take_step lt k hlt2 (fun i => (0 : Int) + ((ofI lo i : Nat) : Int)))
                      have hol := ofI_le HGLt.out lt[k].item
                      have hol2 := ofI_take_le lt k lt[k].item
                      have hbd := ofI_le HGLo.out lt[k].item
                      generalize lt[k] = x at *
                      obtain ⟨xi, xn⟩ := x
                      try simp only [] at hit hol hol2 y0 y1 HST hbd
                      obtain ⟨z, hz⟩ : ∃ z, (0 : Int) + ((ofI lo xi : Nat) : Int) - ((ofI (lt.take k) xi : Nat) : Int) = z := ⟨_, rfl⟩
                      have hzl : -100000000 ≤ z ∧ z ≤ 100000000 := by omega
                      have hgl := HQ.out.f.lt
                      have y2 := HQ.out.f.cell xi
                      rw [bagL_at _ _ _ hit.1] at y2
                      try simp only [] at y2
                      rw [hz] at y2
                      have y3 := HQ.out.f.frozen xi
                      rw [hz] at HST
                      have hgne : n0 ≠ wr.heap.size := by omega
                      have i1 : (0 : Int) ≤ (xi : Int) := by omega
                      have i2 : (xi : Int) < (c.items.length : Int) := by omega
                      have HE1 := Lib.hid e1
                      clear hz hol hol2 e1 hJz hams hbd
                      rw [HE1.out]
                      go_wp2_with fail
                      go_region
                      go_wp2_with fail
                      go_roundw
                      case rel =>
                        refine ⟨k + 1, by omega, by go_num, Lib.hid ?_⟩
                        refine HQ.out.only (HE.out.hA ko) ((((Only.refl (fun b => b = n0) wr).set (p := ⟨n0, xi, none⟩) rfl _).alloc _).drew) ?_ hgn hbRn hsz3
                        rw [← HST.out, ← bagL_set]
                        exact ((HQ.out.f.set xi _).alloc _).drew
                      case measure => simp [intOf]; omega
                    · have HQ6 : Hid (RSt n0 c.items.length g bR os rc (J ko) (effF lt lo) wr) := Lib.hid (by
                        have h9 := HQ.out
                        rw [List.take_of_length_le (show lt.length ≤ k by omega)] at h9
                        have e : (fun i => (0 : Int) + ((ofI lo i : Nat) : Int) - ((ofI lt i : Nat) : Int)) = effF lt lo := by funext i; unfold effF; omega
                        rw [e] at h9
                        exact h9)
                      obtain ⟨fn, tmps, assign, body, hyy, hRR⟩ := HE.out.hY ko j (effF lt lo) wr HKO.out HQ6.out.j HQ6.out.f
                      have HRR := Lib.hid hRR
                      clear HQ hRR
                      refine (wpIn_wide (n := 30)).1 ?_
                      gi_wp2
                      refine (wpIn_wide (n := 30)).1 ?_
                      repeat (first | go_values | gi_guarded | gi_step | gi_upon)
                      refine HRR.out.mono ?_
                      rintro e W3 ⟨⟨rfl, hj⟩ | ⟨rfl, hj⟩, hK⟩
                      · have HR3 : Hid (∃ f, RSt n0 c.items.length g bR os rc (J (kj + (o + 1))) f W3) := Lib.hid (by
                          rw [HKE.out]
                          exact ⟨_, hj, HQ6.out.f.up hK (Nat.le_refl _), HQ6.out.o.up hK (by omega), HQ6.out.r.up hK (by omega)⟩)
                        clear hj hK HQ6 hyy HRR HKO HKE
                        simp only []
                        repeat (first | go_values | gi_guarded | gi_step | gi_upon)
                        go_wp2_with fail
                        go_roundw
                        case rel => exact ⟨o + 1, by omega, by go_num, HR3⟩
                        case measure => simp [intOf]; omega
                      · simp only []
                        repeat (first | go_values | gi_guarded | gi_step | gi_upon)
                        exact bodyPost_ret (results_none rfl _ _ _) rfl ⟨⟨_, rfl⟩, .inr hj⟩
            · obtain rfl : o = 1 := by omega
              have HJ9 : Hid (J (kj + 1) wr) := Lib.hid (by obtain ⟨f, hf⟩ := HI.out; exact hf.j)
              have HF9 : Hid (∃ f, BlkC wr n0 3 (bagL c.items.length f)) := Lib.hid (by obtain ⟨f, hf⟩ := HI.out; exact ⟨f, hf.f⟩)
              clear HI HOU
              go_wp2_with fail
              go_roundw
              case rel => exact ⟨j + 1, kj + 1, by omega, by go_num, HJ9, HF9, HL2⟩
              case measure => simp [intOf]; omega
    · have HJ9 : Hid (J (resL c).length wr) := Lib.hid (by
        have h9 := HL.out.1
        rw [List.drop_of_length_le (show c.rules.length ≤ j by omega)] at h9
        have h8 := HJ.out
        have e : kj = (resL c).length := by simpa [resT] using h9
        rw [e] at h8
        exact h8)
      clear HJ HL HFk
      go_wp2_with fail
      go_end0
      exact ⟨⟨_, rfl⟩, .inl HJ9.out⟩
theorem results_any (a1 a2 : Option Addr) (n1 c1 n2 c2 : Nat) (w : World) : Calls Tryz.prog 48 #[.agg #[.slice a1 n1 c1, .slice a2 n2 c2, .slice none 0 0, .slice none 0 0]] w fun e w' => e = .returned (.func (.func 101) #[] #[.pointer (some ⟨w.heap.size, 0, none⟩)]) ∧ w.alloc (.cells #[.slice a1 n1 c1, .slice a2 n2 c2, .slice none 0 0, .slice none 0 0] 28) = w' := by
  go_enter Tryz.func48, Tryz.ntmps48
  go_wp2_with fail
  go_ret
  exact ⟨rfl, rfl⟩
end Go.Proofs.YtfpcgjgkbniofaaGreatDoor
