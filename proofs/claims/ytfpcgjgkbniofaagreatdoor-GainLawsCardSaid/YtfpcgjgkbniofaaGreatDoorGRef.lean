/- ref11: Usable, Sequence, Gains, Has. -/
import Derived.Test.YtfpcgjgkbniofaaGreatDoorGFind
import Derived.Test.YtfpcgjgkbniofaaGreatDoorGGen
set_option linter.unusedVariables false
set_option linter.unusedSimpArgs false
namespace Go.Proofs.YtfpcgjgkbniofaaGreatDoor
open Go.RowKit
attribute [local go_sem] Oper.semAt_some

set_option maxHeartbeats 2000000 in
theorem usable_ref (vi vr : Value) (c : Cat) (w : World) (hc : CatAt w vi vr c) (hl : c.rules.length ≤ 1000) :
    Calls Tryz.prog 29 #[catV vi vr] w fun e w' => (∃ v, e = .returned v ∧ NatsOf w' v (usL c)) ∧ Below w.heap.size w w' := by
  obtain ⟨ai, ci, rfl, hi1, hi2⟩ := hc.items.form
  obtain ⟨ar, cr, rfl, hr1, hr2⟩ := hc.rules.form
  have HC := Lib.hid hc
  clear hc
  unfold catV
  obtain ⟨w1, hw1⟩ : ∃ w1, w.alloc (.cells #[.slice ai c.items.length ci, .slice ar c.rules.length cr, .slice none 0 0, .slice none 0 0] 28) = w1 := ⟨_, rfl⟩
  have HB : Hid (Below w.heap.size w w1) := Lib.hid (by rw [← hw1]; exact (Below.refl _ _).alloc (Nat.le_refl _) _)
  have HX : Hid (BoxC w1 w.heap.size (.slice ai c.items.length ci) (.slice ar c.rules.length cr)) := Lib.hid (by rw [← hw1]; exact BoxC.new _ _ _)
  go_enter Tryz.func29, Tryz.ntmps29
  go_wp2_with fail
  clear hw1
  go_loopw [3, 4] (fun o i wr => ∃ (j : Nat) (ga : Option Addr) (gc : Nat), j ≤ c.rules.length ∧ i = .int .i64 j ∧ o = .slice ga (usT c j).length gc ∧ gc ≤ 9223372036854775807 ∧ (usT c j).length ≤ gc ∧ Hid (wr.ownsRow w1.heap.size 3 1 (.slice ga (usT c j).length gc) (usT c j).length ((usT c j).map natV)) ∧ Hid (Below w1.heap.size w1 wr)) (fun _ i _ => c.rules.length - (intOf i).toNat)
  case atStart => exact ⟨0, none, 0, by omega, rfl, rfl, by omega, by simp [usT], Lib.hid (World.ownsRow_nil _ _ _ _), Lib.hid (Below.refl _ _)⟩
  case round =>
    obtain ⟨j, ga, gc, hj, rfl, rfl, hgc, hgl, HO, HBl⟩ := hrel
    have hlen := usT_len c j
    have HXr := Lib.hid (HX.out.below HBl.out)
    have m1 := HXr.out.c1
    have hxl := HX.out.lt
    by_cases hlt : j < c.rules.length
    · obtain ⟨b, cap, p, hv, hb, hr, hcs⟩ := RulesAt.at_ (HC.out.rules.below (HB.out.trans (HBl.out.mono HB.out.size))) j hlt
      injection hv with e1 e2 e3
      subst e1
      clear e2 e3
      have c1 := hcs.c1
      have c6 := hcs.c6
      have HT : Hid (usT c (j + 1) = usT c j ++ if usB c.rules[j] then [j] else []) := Lib.hid (usL_take c j hlt)
      have hub : usB c.rules[j] = (!c.rules[j].spawn && !c.rules[j].take.isEmpty) := rfl
      have hem : c.rules[j].take.isEmpty = decide (c.rules[j].take.length = 0) := by cases c.rules[j].take <;> simp
      have hs1 := hb
      clear hr hcs
      generalize c.rules[j] = x at *
      obtain ⟨xn, xs, xt, xo, xk, xg, xb⟩ := x
      simp only [] at hub hem c1 c6
      generalize usB _ = ub at *
      cases xs with
      | true =>
        obtain rfl : ub = false := by simp [hub]
        have HE6 : Hid (usT c (j + 1) = usT c j) := Lib.hid (by rw [HT.out]; simp)
        clear hub hem
        go_wp2_with fail
        go_roundw
        case rel => exact ⟨j + 1, ga, gc, by omega, by go_num, by rw [HE6.out], hgc, by rw [HE6.out]; exact hgl, Lib.hid (by rw [HE6.out]; exact HO.out), HBl⟩
        case measure => simp [intOf]; omega
      | false =>
        by_cases h0 : xk.length = 0
        · obtain rfl : ub = false := by simp [hub, hem, h0]
          have HE6 : Hid (usT c (j + 1) = usT c j) := Lib.hid (by rw [HT.out]; simp)
          have q1 : decide (0 < (xk.length : Int)) = false := decide_eq_false (by omega)
          have q2 : decide (0 < xk.length) = false := decide_eq_false (by omega)
          clear hub hem
          go_wp2_with fail
          go_roundw
          case rel => exact ⟨j + 1, ga, gc, by omega, by go_num, by rw [HE6.out], hgc, by rw [HE6.out]; exact hgl, Lib.hid (by rw [HE6.out]; exact HO.out), HBl⟩
          case measure => simp [intOf]; omega
        · obtain rfl : ub = true := by simp [hub, hem, h0]
          have q1 : decide (0 < (xk.length : Int)) = true := by simp; omega
          have q2 : decide (0 < xk.length) = true := by simp; omega
          clear hub hem
          go_wp2_with (at_builtin; refine wpList_app1 elemInt rfl _ _ rfl [.int .i64 (j : Int)] 3 _ _ _ rfl rfl rfl (by simp [Value.oneCell']) HO.out HBl.out HBl.out.size (by omega) (by omega) ?_)
          intro g6 cap6 w6 Hown6 HB6 HO6 hcap6 hat6
          have hlen6 : (usT c (j + 1)).length = (usT c j).length + 1 := by rw [HT.out]; simp
          have Hown7 : Hid (w6.ownsRow w1.heap.size 3 1 (.slice (some ⟨g6, 0, none⟩) (usT c (j + 1)).length cap6) (usT c (j + 1)).length ((usT c (j + 1)).map natV)) := Lib.hid (by rw [hlen6, HT.out]; have h9 := Hown6.out; simpa [natV] using h9)
          have hcl : (usT c (j + 1)).length ≤ cap6 := by
            rcases Hown7.out.2 with ⟨hv, _⟩ | ⟨_, _, _, hv, _, _, h4, h3, _⟩
            · cases hv
            · injection hv with _ _ e; omega
          have HL6 := Lib.hid hlen6
          clear Hown6 HO6 hat6 HO hlen6
          go_wp2_with fail
          go_roundw
          case rel => exact ⟨j + 1, some ⟨g6, 0, none⟩, cap6, by omega, by go_num, by rw [HL6.out], hcap6, hcl, Hown7, HB6⟩
          case measure => simp [intOf]; omega
    · obtain rfl : j = c.rules.length := by omega
      have HU := Lib.hid (nats_of_own HO.out)
      have HBr := Lib.hid (HB.out.trans (HBl.out.mono HB.out.size))
      clear HO
      go_wp2_with fail
      go_ret
      exact ⟨⟨_, rfl, HU.out⟩, HBr.out⟩

set_option maxHeartbeats 2000000 in
theorem sequence_any (vi vr v : Value) (c : Cat) (pk : Nat → Nat → Nat) (n : Nat) (w : World) (hc : CatAt w vi vr c) (hl : c.rules.length ≤ 100) (hp : Picks pk) (hv : PickIs w v pk) (hn : n ≤ 100) :
    Calls Tryz.prog 8 #[catV vi vr, v, .int .i64 (n : Int)] w fun e w' => (∃ u s, e = .returned u ∧ NatsOf w' u s ∧ s.length ≤ n ∧ ∀ x ∈ s, x ∈ usL c) ∧ Below w.heap.size w w' := by
  obtain ⟨ai, ci, rfl, hi1, hi2⟩ := hc.items.form
  obtain ⟨ar, cr, rfl, hr1, hr2⟩ := hc.rules.form
  have HC := Lib.hid hc
  have HP := Lib.hid hp
  have HV := Lib.hid hv
  clear hc hp hv
  unfold catV
  obtain ⟨w1, hw1⟩ : ∃ w1, w.alloc (.cells #[.slice ai c.items.length ci, .slice ar c.rules.length cr, .slice none 0 0, .slice none 0 0] 28) = w1 := ⟨_, rfl⟩
  have HB : Hid (Below w.heap.size w w1) := Lib.hid (by rw [← hw1]; exact (Below.refl _ _).alloc (Nat.le_refl _) _)
  have HX : Hid (BoxC w1 w.heap.size (.slice ai c.items.length ci) (.slice ar c.rules.length cr)) := Lib.hid (by rw [← hw1]; exact BoxC.new _ _ _)
  have m0 := HX.out.c0
  have m1 := HX.out.c1
  have m2 := HX.out.c2
  have m3 := HX.out.c3
  go_enter Tryz.func8, Tryz.ntmps8
  go_wp2_with fail
  clear hw1 m0 m1 m2 m3
  refine (usable_ref _ _ c w1 (HC.out.below HB.out) (by omega)).mono ?_
  rintro e w2 ⟨⟨vu, rfl, hu⟩, hB⟩
  have HU := Lib.hid hu
  obtain ⟨ua, uc, rfl, hu1, hu2⟩ := hu.form
  have HB := Lib.hid (HB.out.trans (hB.mono HB.out.size))
  have hul : (usL c).length ≤ 100 := Nat.le_trans (usT_len c c.rules.length) hl
  obtain ⟨U, hU⟩ : ∃ U, usL c = U := ⟨_, rfl⟩
  rw [hU] at HU hu1 hul ⊢
  have HUU := Lib.hid hU
  have hpn := HP.out.lt 0 (n + 1) (by omega)
  clear hu hB hU HX HC
  go_wp2_with fail
  go_loopw [8, 9] (fun o i wr => ∃ (j : Nat) (s : List Nat) (ga : Option Addr) (gc : Nat), j ≤ pk 0 (n + 1) ∧ i = .int .i64 j ∧ o = .slice ga j gc ∧ s.length = j ∧ gc ≤ 9223372036854775807 ∧ j ≤ gc ∧ Hid (∀ x ∈ s, x ∈ U) ∧ Hid (wr.ownsRow w2.heap.size 3 1 (.slice ga j gc) j (s.map natV)) ∧ Hid (Below w2.heap.size w2 wr)) (fun _ i _ => pk 0 (n + 1) - (intOf i).toNat)
  case atStart => exact ⟨0, [], none, 0, by omega, rfl, rfl, rfl, by omega, by omega, Lib.hid (by simp), Lib.hid (World.ownsRow_nil _ _ _ _), Lib.hid (Below.refl _ _)⟩
  case round =>
    obtain ⟨j, s, ga, gc, hj, rfl, rfl, hsj, hgc, hjg, HS, HO, HBl⟩ := hrel
    have HBr := Lib.hid (HB.out.trans (HBl.out.mono HB.out.size))
    have hn1 : IntKind.i64.wrap ((n : Int) + 1) = ((n + 1 : Nat) : Int) := by rw [IntWalk.i64_in _ (by omega)]; omega
    go_wp2_with fail
    refine (HV.out _ HBr.out _ 0 _ (n + 1) rfl (by omega) (by omega) (by omega) (by omega)).mono ?_
    rintro e w' ⟨rfl, rfl⟩
    have hend : Hid (∃ u s', (Value.slice ga j gc) = u ∧ NatsOf w' u s' ∧ s'.length ≤ n ∧ ∀ x ∈ s', x ∈ U) := Lib.hid ⟨_, s, rfl, nats_of_own (by rw [hsj]; exact HO.out), by omega, HS.out⟩
    by_cases hlt : j < pk 0 (n + 1)
    · have q1 : decide ((j : Int) < ((pk 0 (n + 1) : Nat) : Int)) = true := by simp; omega
      by_cases hu0 : U.length = 0
      · have q2 : decide (0 < (U.length : Int)) = false := decide_eq_false (by omega)
        have q3 : decide (0 < U.length) = false := decide_eq_false (by omega)
        obtain ⟨P, hP⟩ : ∃ P, pk 0 (n + 1) = P := ⟨_, rfl⟩
        rw [hP] at q1 ⊢
        go_wp2_with fail
        go_ret
        obtain ⟨u, s', h1, h2, h3, h4⟩ := hend.out
        exact ⟨⟨u, s', by rw [← h1]; rfl, h2, h3, fun x hx => by rw [HUU.out]; exact h4 x hx⟩, HBr.out⟩
      · have q2 : decide (0 < (U.length : Int)) = true := by simp; omega
        have q3 : decide (0 < U.length) = true := by simp; omega
        have hpj := HP.out.lt (j + 1) U.length (by omega)
        obtain ⟨b1, cap1, hv1, hb1, n0⟩ := NatsOf.at_ (HU.out.below HBl.out) (pk (j + 1) U.length) hpj
        injection hv1 with e1 e2 e3
        subst e1
        clear e2 e3
        have HM := Lib.hid (List.getElem_mem hpj)
        have hj1 : IntKind.i64.wrap ((j : Int) + 1) = ((j + 1 : Nat) : Int) := by rw [IntWalk.i64_in _ (by omega)]; omega
        obtain ⟨P, hP⟩ : ∃ P, pk 0 (n + 1) = P := ⟨_, rfl⟩
        rw [hP] at q1 hlt hj hpn ⊢
        obtain ⟨m, hm⟩ : ∃ m, pk (j + 1) U.length = m := ⟨_, rfl⟩
        have hpj2 : m < U.length := by omega
        have HMM := Lib.hid hm
        generalize U[pk (j + 1) U.length] = x at *
        rw [hm] at n0
        clear hpj hm
        go_wp2_with fail
        refine (HV.out _ HBr.out _ (j + 1) _ U.length (by omega) rfl (by omega) (by omega) (by omega)).mono ?_
        rintro e w' ⟨rfl, rfl⟩
        rw [HMM.out]
        have i2 : (m : Int) < (U.length : Int) := by omega
        go_wp2_with (at_builtin; refine wpList_app1 (W0 := w2) elemInt rfl _ _ rfl [.int .i64 (x : Int)] 3 _ _ _ rfl rfl rfl (by simp [Value.oneCell']) HO.out HBl.out HBl.out.size (by omega) (by omega) ?_)
        intro g6 cap6 w6 Hown6 HB6 HO6 hcap6 hat6
        have Hown7 : Hid (w6.ownsRow w2.heap.size 3 1 (.slice (some ⟨g6, 0, none⟩) (j + 1) cap6) (j + 1) ((s ++ [x]).map natV)) := Lib.hid (by have h9 := Hown6.out; simpa [natV] using h9)
        have hcl : j + 1 ≤ cap6 := by
          rcases Hown7.out.2 with ⟨hv, _⟩ | ⟨_, _, _, hv, _, _, h4, h3, _⟩
          · cases hv
          · injection hv with _ _ e; omega
        have HS7 : Hid (∀ y ∈ s ++ [x], y ∈ U) := Lib.hid (fun y hy => by
          rcases List.mem_append.1 hy with h | h
          · exact HS.out y h
          · rw [List.mem_singleton.1 h]; exact HM.out)
        clear Hown6 HO6 hat6 HO
        go_wp2_with fail
        go_roundw
        case rel => exact ⟨j + 1, s ++ [x], some ⟨g6, 0, none⟩, cap6, by omega, by go_num, rfl, by simp [hsj], hcap6, hcl, HS7, Hown7, HB6⟩
        case measure => simp [intOf]; omega
    · have q1 : decide ((j : Int) < ((pk 0 (n + 1) : Nat) : Int)) = false := decide_eq_false (by omega)
      obtain ⟨P, hP⟩ : ∃ P, pk 0 (n + 1) = P := ⟨_, rfl⟩
      rw [hP] at q1 ⊢
      go_wp2_with fail
      go_ret
      obtain ⟨u, s', h1, h2, h3, h4⟩ := hend.out
      exact ⟨⟨u, s', by rw [← h1]; rfl, h2, h3, fun x hx => by rw [HUU.out]; exact h4 x hx⟩, HBr.out⟩

set_option maxHeartbeats 1000000 in
theorem rgains_any (v : Value) (l : List Int) (w : World) (h : IntsOf w v l) : Calls Tryz.prog 45 #[v] w fun e w' => e = .returned (.bool (gainsB l)) ∧ w' = w := by
  have HL := Lib.hid h
  obtain ⟨a0, c0, rfl, h1, h2⟩ := h.form
  clear h
  go_enter Tryz.func45, Tryz.ntmps45
  go_wp2_with fail
  go_loop [3, 4] (fun m i => ∃ (j : Nat) (b : Bool), j ≤ l.length ∧ i = .int .i64 j ∧ m = .bool b ∧ Hid (b = gmore (l.take j)) ∧ Hid ((l.take j).all (fun x => decide (0 ≤ x)) = true)) (fun _ i => l.length - (intOf i).toNat)
  case atStart => exact ⟨0, false, by omega, rfl, rfl, Lib.hid (by simp [gmore]), Lib.hid (by simp)⟩
  case round =>
    obtain ⟨j, b, hj, rfl, rfl, HM, HA⟩ := hrel
    by_cases hlt : j < l.length
    · obtain ⟨b1, cap1, hv1, hb1, n0⟩ := IntsOf.at_ HL.out j hlt
      injection hv1 with e1 e2 e3
      subst e1
      clear e2 e3
      have HT : Hid (gmore (l.take (j + 1)) = (gmore (l.take j) || decide (0 < l[j]))) := Lib.hid (by unfold gmore; rw [List.take_succ_eq_append_getElem hlt, List.any_append]; simp)
      have HT2 : Hid ((l.take (j + 1)).all (fun x => decide (0 ≤ x)) = ((l.take j).all (fun x => decide (0 ≤ x)) && decide (0 ≤ l[j]))) := Lib.hid (by rw [List.take_succ_eq_append_getElem hlt, List.all_append]; simp)
      have HNo : Hid (l[j] < 0 → gainsB l = false) := Lib.hid (fun h => by
        unfold gainsB
        have : l.all (fun x => decide (0 ≤ x)) = false := by
          rw [Bool.eq_false_iff]
          intro h2
          rw [List.all_eq_true] at h2
          have := h2 _ (List.getElem_mem hlt)
          simp at this
          omega
        rw [this]
        rfl)
      generalize l[j] = x at *
      by_cases hx : x < 0
      · have HE := Lib.hid (HNo.out hx)
        have q1 : decide (x < 0) = true := by simpa using hx
        go_wp2_with fail
        go_ret
        exact ⟨by rw [HE.out]; rfl, rfl⟩
      · have q1 : decide (x < 0) = false := by simpa using hx
        have HA2 : Hid ((l.take (j + 1)).all (fun x => decide (0 ≤ x)) = true) := Lib.hid (by rw [HT2.out, HA.out, decide_eq_true (show 0 ≤ x by omega)]; rfl)
        cases b with
        | true =>
          go_wp2_with fail
          go_round
          case rel => exact ⟨j + 1, true, by omega, by go_num, rfl, Lib.hid (by rw [HT.out, ← HM.out]; rfl), HA2⟩
          case measure => simp [intOf]; omega
        | false =>
          by_cases hx2 : 0 < x
          · have q2 : decide (0 < x) = true := by simpa using hx2
            go_wp2_with fail
            go_round
            case rel => exact ⟨j + 1, true, by omega, by go_num, rfl, Lib.hid (by rw [HT.out, q2, Bool.or_true]), HA2⟩
            case measure => simp [intOf]; omega
          · have q2 : decide (0 < x) = false := by simpa using hx2
            go_wp2_with fail
            go_round
            case rel => exact ⟨j + 1, false, by omega, by go_num, rfl, Lib.hid (by rw [HT.out, q2, ← HM.out]; rfl), HA2⟩
            case measure => simp [intOf]; omega
    · have h9 := HA.out
      have h8 := HM.out
      rw [List.take_of_length_le (show l.length ≤ j by omega)] at h9 h8
      have HE : Hid (gainsB l = b) := Lib.hid (by unfold gainsB; rw [h9, h8]; rfl)
      clear h9 h8
      go_wp2_with fail
      go_ret
      exact ⟨by rw [HE.out]; rfl, rfl⟩
end Go.Proofs.YtfpcgjgkbniofaaGreatDoor
