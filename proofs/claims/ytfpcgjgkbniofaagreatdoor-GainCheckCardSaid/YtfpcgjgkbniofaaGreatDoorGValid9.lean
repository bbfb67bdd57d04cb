/- ref09.Valid at a good catalog: the whole. -/
import Derived.Test.YtfpcgjgkbniofaaGreatDoorGV9
set_option linter.unusedVariables false
set_option linter.unusedSimpArgs false
namespace Go.Proofs.YtfpcgjgkbniofaaGreatDoor
open Go.RowKit
attribute [local go_sem] Oper.semAt_some

theorem TxsAt.take {w : World} {a : Option Addr} {n cap : Nat} {l : List Tx} (h : TxsAt w (.slice a n cap) l) (m : Nat) (hm : m ≤ l.length) : TxsAt w (.slice a m cap) (l.take m) := SliceOf.take h m hm
/-- what the names of a good catalog are like -/
structure NamesOk (ls : List (List Tx)) : Prop where
  len : ls.length = 4
  word : ∀ l ∈ ls, ∀ n ∈ l, WordT n
  once : ∀ l ∈ ls, l.Nodup
theorem namesOk {c : Cat} (hf : Fine c) : NamesOk [c.items, c.rules.map (fun r => r.name), [], []] := by
  refine ⟨rfl, fun l hl n hn => ?_, fun l hl => ?_⟩
  · simp only [List.mem_cons, List.not_mem_nil, or_false] at hl
    rcases hl with rfl | rfl | rfl | rfl
    · exact hf.named.1 n hn
    · obtain ⟨r, hr, rfl⟩ := List.mem_map.1 hn
      exact hf.named.2 r hr
    · simp at hn
    · simp at hn
  · simp only [List.mem_cons, List.not_mem_nil, or_false] at hl
    rcases hl with rfl | rfl | rfl | rfl
    · exact hf.ni
    · exact hf.nr
    · exact List.nodup_nil
    · exact List.nodup_nil
theorem nodup_take {l : List Tx} (h : l.Nodup) (k : Nat) (hk : k < l.length) : decide (l[k] ∈ l.take k) = false := by
  refine decide_eq_false (fun hm => ?_)
  obtain ⟨q, hq, he⟩ := List.mem_take_iff_getElem.1 hm
  have := List.pairwise_iff_getElem.1 h q k (by omega) hk (by omega)
  exact this he
theorem lists_good {c : Cat} (hg : Good c) : ∀ l ∈ ruleLists c.rules, GoodL c.items.length 1000 2 l := by
  intro l hl
  obtain ⟨r, hr, hm⟩ := List.mem_flatMap.1 hl
  have h := hg.each r hr
  simp only [List.mem_cons, List.not_mem_nil, or_false] at hm
  rcases hm with rfl | rfl | rfl
  · exact h.take
  · exact h.give
  · exact h.back
theorem five_false (k : Nat) (h : k < 5) : ([.bool false, .bool false, .bool false, .bool false, .bool false] : List Value)[k]? = some (.bool false) := by
  match k, h with
  | 0, _ => rfl
  | 1, _ => rfl
  | 2, _ => rfl
  | 3, _ => rfl
  | 4, _ => rfl
set_option maxRecDepth 100000 in
set_option maxHeartbeats 8000000 in
theorem rvalid_any (vi vr : Value) (c : Cat) (w : World) (hc : CatAt w vi vr c) (hf : Fine c) :
    Calls Tryz.prog 44 #[catV vi vr] w fun e w' => e = .returned (.int .i64 0) ∧ Below w.heap.size w w' := by
  obtain ⟨ai, ci, rfl, hi1, hi2⟩ := hc.items.form
  obtain ⟨ar, cr, rfl, hr1, hr2⟩ := hc.rules.form
  have HC := Lib.hid hc
  have HF := Lib.hid hf
  have hli := hf.good.items
  have hlr := hf.good.rules
  have HNO := Lib.hid (namesOk hf)
  clear hc hf
  unfold catV
  obtain ⟨w1, hw1⟩ : ∃ w1, w.alloc (.cells #[.slice ai c.items.length ci, .slice ar c.rules.length cr, .slice none 0 0, .slice none 0 0] 28) = w1 := ⟨_, rfl⟩
  have HB : Hid (Below w.heap.size w w1) := Lib.hid (by rw [← hw1]; exact (Below.refl _ _).alloc (Nat.le_refl _) _)
  have HX : Hid (BoxC w1 w.heap.size (.slice ai c.items.length ci) (.slice ar c.rules.length cr)) := Lib.hid (by rw [← hw1]; exact BoxC.new _ _ _)
  have m0 := HX.out.c0
  have m1 := HX.out.c1
  have m2 := HX.out.c2
  have m3 := HX.out.c3
  have mlt := HX.out.lt
  have q1 : decide (64 < (c.items.length : Int)) = false := decide_eq_false (by omega)
  have q2 : decide (64 < (c.rules.length : Int)) = false := decide_eq_false (by omega)
  go_enter Tryz.func44, Tryz.ntmps44
  go_wp2_with fail
  clear hw1 q1 q2
  refine (names_ref _ _ c w1 (HC.out.below HB.out) (by omega) (by omega)).mono ?_
  rintro e w2 ⟨⟨vn, rfl, hn⟩, hB⟩
  have HBK := Lib.hid hB
  have hBk := HBK.out
  replace HB := Lib.hid (HB.out.trans (hBk.mono HB.out.size))
  replace HX := Lib.hid (HX.out.below hBk)
  clear hBk
  try clear m0
  try clear m1
  try clear m2
  try clear m3
  try clear mlt
  have m0 := HX.out.c0
  have m1 := HX.out.c1
  have m2 := HX.out.c2
  have m3 := HX.out.c3
  have mlt := HX.out.lt
  obtain ⟨ls, hls⟩ : ∃ ls, [c.items, c.rules.map (fun r => r.name), [], []] = ls := ⟨_, rfl⟩
  rw [hls] at hn HNO
  have hl4 := HNO.out.len
  obtain ⟨na, nc, rfl, hn1, hn2⟩ := hn.form
  rw [hl4] at hn1 hn ⊢
  have HN := Lib.hid hn
  clear hls hn hB HBK
  go_wp2_with fail
  clear m0 m1 m2 m3 mlt
  go_loopw [4, 5, 9] (fun x y i wr => ∃ j : Nat, j ≤ 4 ∧ x = .bool false ∧ y = .bool false ∧ i = .int .i64 j ∧ Hid (Below w2.heap.size w2 wr)) (fun _ _ i _ => 4 - (intOf i).toNat)
  case atStart => exact ⟨0, by omega, rfl, rfl, rfl, Lib.hid (Below.refl _ _)⟩
  case round =>
    obtain ⟨j, hj, rfl, rfl, rfl, HBl⟩ := hrel
    by_cases hlt : j < 4
    · obtain ⟨b, cap, u, hv, hb, x0, hu⟩ := TxssAt.at_ (HN.out.below HBl.out) j (by omega)
      injection hv with e1 e2 e3
      subst e1
      clear e2 e3
      have HW : Hid (∀ n ∈ ls[j]'(by omega), WordT n) := Lib.hid (fun n hn => HNO.out.word _ (List.getElem_mem _) n hn)
      have HO1 : Hid ((ls[j]'(by omega)).Nodup) := Lib.hid (HNO.out.once _ (List.getElem_mem _))
      generalize ls[j]'(by omega) = l at *
      obtain ⟨ua, uc, rfl, hu1, hu2⟩ := hu.form
      have HT := Lib.hid hu
      clear hu
      have i1 : (j : Int) < 4 := by omega
      obtain ⟨w3, rfl⟩ : ∃ wo : World, wo = wr := ⟨_, rfl⟩
      have HX0 := Lib.hid x0
      go_wp2_with fail
      go_loopw [4, 5, 10] (fun x y i wr => ∃ k : Nat, k ≤ l.length ∧ x = .bool false ∧ y = .bool false ∧ i = .int .i64 k ∧ Hid (Below w3.heap.size w3 wr)) (fun _ _ i _ => l.length - (intOf i).toNat)
      case atStart => exact ⟨0, by omega, rfl, rfl, rfl, Lib.hid (Below.refl _ _)⟩
      case round =>
        clear x0
        obtain ⟨k, hk, rfl, rfl, rfl, HBk⟩ := hrel
        have x0 := (HBk.out.cell (p := ⟨b, j, none⟩) hb).trans HX0.out
        have hbr : b < wr.heap.size := Nat.lt_of_lt_of_le hb HBk.out.size
        by_cases hlt2 : k < l.length
        · have HTk := Lib.hid (HT.out.below HBk.out)
          obtain ⟨b2, cap2, hv, hb2, x1⟩ := TxsAt.at_ HTk.out k hlt2
          injection hv with e1 e2 e3
          subst e1
          clear e2 e3
          have HWk := Lib.hid (HW.out l[k] (List.getElem_mem hlt2))
          have HDk := Lib.hid (nodup_take HO1.out k hlt2)
          generalize l[k] = n at *
          have i2 : (k : Int) < (l.length : Int) := by omega
          have i3 : (k : Int) ≤ (uc : Int) := by omega
          go_wp2_with fail
          refine (rword_any n wr HWk.out).mono ?_
          rintro e w5 ⟨rfl, hB⟩
          replace x0 := (hB.cell (p := ⟨b, j, none⟩) hbr).trans x0
          replace x1 := (hB.cell (p := ⟨b2, k, none⟩) hb2).trans x1
          replace HTk := Lib.hid (HTk.out.below hB)
          have HBk5 := Lib.hid (HBk.out.trans (hB.mono HBk.out.size))
          clear hB HWk
          go_wp2_with fail
          refine startK 99 (fun W => W.cell? ⟨b, j, none⟩ = some (.slice (some ⟨b2, 0, none⟩) l.length uc) ∧ W.cell? ⟨b2, k, none⟩ = some (.string ⟨n.toArray⟩)) (by kernel_rfl) (⟨x0, x1⟩) (fun hHeld => ?_)
          refine takeK 0 82 (v := ?_) rfl rfl (by kernel_rfl) (by kernel_rfl) (by kernel_rfl) (by kernel_rfl) (fun _ _ _ h => h) (by rfl) ?_ (by assumption) ?_
          rotate_left
          · (intro w hSw; go_simp; first | done | with_reducible rfl)
          simp only [List.setIfInBounds_toArray, List.set_cons_zero, List.set_cons_succ]
          refine takeK 1 83 (v := ?_) rfl rfl (by kernel_rfl) (by kernel_rfl) (by kernel_rfl) (by kernel_rfl) (fun _ _ _ h => h) (by rfl) ?_ (by assumption) ?_
          rotate_left
          · (intro w hSw; go_simp; first | done | with_reducible rfl)
          simp only [List.setIfInBounds_toArray, List.set_cons_zero, List.set_cons_succ]
          refine takeK 2 84 (v := ?_) rfl rfl (by kernel_rfl) (by kernel_rfl) (by kernel_rfl) (by kernel_rfl) (fun _ _ _ h => h) (by rfl) ?_ (by assumption) ?_
          rotate_left
          · (intro w hSw; go_simp; first | done | with_reducible rfl)
          simp only [List.setIfInBounds_toArray, List.set_cons_zero, List.set_cons_succ]
          refine takeK 3 85 (v := ?_) rfl rfl (by kernel_rfl) (by kernel_rfl) (by kernel_rfl) (by kernel_rfl) (fun _ _ _ h => h) (by rfl) ?_ (by assumption) ?_
          rotate_left
          · (intro w hSw; go_simp; first | done | with_reducible rfl)
          simp only [List.setIfInBounds_toArray, List.set_cons_zero, List.set_cons_succ]
          refine takeK 4 86 (v := ?_) rfl rfl (by kernel_rfl) (by kernel_rfl) (by kernel_rfl) (by kernel_rfl) (fun _ _ _ h => h) (by rfl) ?_ (by assumption) ?_
          rotate_left
          · (intro w hSw; go_simp; first | done | with_reducible rfl)
          simp only [List.setIfInBounds_toArray, List.set_cons_zero, List.set_cons_succ]
          refine takeK 5 87 (v := ?_) rfl rfl (by kernel_rfl) (by kernel_rfl) (by kernel_rfl) (by kernel_rfl) (fun _ _ _ h => h) (by rfl) ?_ (by assumption) ?_
          rotate_left
          · (intro w hSw; go_simp; first | done | with_reducible rfl)
          simp only [List.setIfInBounds_toArray, List.set_cons_zero, List.set_cons_succ]
          refine takeK 6 88 (v := ?_) rfl rfl (by kernel_rfl) (by kernel_rfl) (by kernel_rfl) (by kernel_rfl) (fun _ _ _ h => h) (by rfl) ?_ (by assumption) ?_
          rotate_left
          · (intro w hSw; go_simp; first | done | with_reducible rfl)
          simp only [List.setIfInBounds_toArray, List.set_cons_zero, List.set_cons_succ]
          refine takeK 7 89 (v := ?_) rfl rfl (by kernel_rfl) (by kernel_rfl) (by kernel_rfl) (by kernel_rfl) (fun _ _ _ h => h) (by rfl) ?_ (by assumption) ?_
          rotate_left
          · (intro w hSw; go_simp; first | done | with_reducible rfl)
          simp only [List.setIfInBounds_toArray, List.set_cons_zero, List.set_cons_succ]
          refine takeK 8 90 (v := ?_) rfl rfl (by kernel_rfl) (by kernel_rfl) (by kernel_rfl) (by kernel_rfl) (fun _ _ _ h => h) (by rfl) ?_ (by assumption) ?_
          rotate_left
          · (intro w hSw; go_simp; first | done | with_reducible rfl)
          simp only [List.setIfInBounds_toArray, List.set_cons_zero, List.set_cons_succ]
          refine takeK 9 91 (v := ?_) rfl rfl (by kernel_rfl) (by kernel_rfl) (by kernel_rfl) (by kernel_rfl) (fun _ _ _ h => h) (by rfl) ?_ (by assumption) ?_
          rotate_left
          · (intro w hSw; go_simp; first | done | with_reducible rfl)
          simp only [List.setIfInBounds_toArray, List.set_cons_zero, List.set_cons_succ]
          refine takeK 10 92 (v := ?_) rfl rfl (by kernel_rfl) (by kernel_rfl) (by kernel_rfl) (by kernel_rfl) (fun _ _ _ h => h) (by rfl) ?_ (by assumption) ?_
          rotate_left
          · (intro w hSw; go_simp; first | done | with_reducible rfl)
          simp only [List.setIfInBounds_toArray, List.set_cons_zero, List.set_cons_succ]
          refine takeK 11 93 (v := ?_) rfl rfl (by kernel_rfl) (by kernel_rfl) (by kernel_rfl) (by kernel_rfl) (fun _ _ _ h => h) (by rfl) ?_ (by assumption) ?_
          rotate_left
          · (intro w hSw; go_simp; first | done | with_reducible rfl)
          simp only [List.setIfInBounds_toArray, List.set_cons_zero, List.set_cons_succ]
          refine takeK 12 94 (v := ?_) rfl rfl (by kernel_rfl) (by kernel_rfl) (by kernel_rfl) (by kernel_rfl) (fun _ _ _ h => h) (by rfl) ?_ (by assumption) ?_
          rotate_left
          · (intro w hSw; go_simp; first | done | with_reducible rfl)
          simp only [List.setIfInBounds_toArray, List.set_cons_zero, List.set_cons_succ]
          refine takeK 13 95 (v := ?_) rfl rfl (by kernel_rfl) (by kernel_rfl) (by kernel_rfl) (by kernel_rfl) (fun _ _ _ h => h) (by rfl) ?_ (by assumption) ?_
          rotate_left
          · (intro w hSw; go_simp; first | done | with_reducible rfl)
          simp only [List.setIfInBounds_toArray, List.set_cons_zero, List.set_cons_succ]
          refine takeK 14 96 (v := ?_) rfl rfl (by kernel_rfl) (by kernel_rfl) (by kernel_rfl) (by kernel_rfl) (fun _ _ _ h => h) (by rfl) ?_ (by assumption) ?_
          rotate_left
          · (intro w hSw; go_simp; first | done | with_reducible rfl)
          simp only [List.setIfInBounds_toArray, List.set_cons_zero, List.set_cons_succ]
          refine stepK 15 (by kernel_rfl) rfl (fun K hK => ?_)
          go_simp
          refine (rin_any _ (l.take k) n _ (TxsAt.take (TxsAt.below HTk.out (Below.refl _ _).drew) k (by omega))).mono ?_
          rintro e w6 ⟨rfl, hw6⟩
          rw [hw6, HDk.out]
          clear hHeld
          go_wp2_with fail
          refine hK.out _ _ (⟨x0, x1⟩) (fun hHeld => ?_)
          clear hK K
          try simp only [Act.put, List.setIfInBounds_toArray, List.set_cons_zero, List.set_cons_succ]
          refine takeK 16 98 (v := ?_) rfl rfl (by kernel_rfl) (by kernel_rfl) (by kernel_rfl) (by kernel_rfl) (fun _ _ _ h => h) (by rfl) ?_ (by assumption) ?_
          rotate_left
          · (intro w hSw; go_simp; first | done | with_reducible rfl)
          simp only [List.setIfInBounds_toArray, List.set_cons_zero, List.set_cons_succ]
          refine takeK 17 5 (v := ?_) rfl rfl (by kernel_rfl) (by kernel_rfl) (by kernel_rfl) (by kernel_rfl) (fun _ _ _ h => h) (by rfl) ?_ (by assumption) ?_
          rotate_left
          · (intro w hSw; go_simp; first | done | with_reducible rfl)
          simp only [List.setIfInBounds_toArray, List.set_cons_zero, List.set_cons_succ]
          refine doneK (by kernel_rfl) ?_ _
          clear hHeld
          clear x0 x1
          go_wp2_with fail
          go_roundw
          case rel => exact ⟨k + 1, by omega, rfl, rfl, by go_num, Lib.hid HBk5.out.drew⟩
          case measure => simp [intOf]; omega
        · have hq : decide ((k : Int) < (l.length : Int)) = false := decide_eq_false (by omega)
          go_wp2_with fail
          go_roundw
          case rel => exact ⟨j + 1, by omega, rfl, rfl, by go_num, Lib.hid (HBl.out.trans (HBk.out.mono HBl.out.size))⟩
          case measure => simp [intOf]; omega
    · have hq : decide ((j : Int) < 4) = false := decide_eq_false (by omega)
      have hBk := HBl.out
      replace HB := Lib.hid (HB.out.trans (hBk.mono HB.out.size))
      replace HX := Lib.hid (HX.out.below hBk)
      clear hBk
      try clear m0
      try clear m1
      try clear m2
      try clear m3
      try clear mlt
      have m0 := HX.out.c0
      have m1 := HX.out.c1
      have m2 := HX.out.c2
      have m3 := HX.out.c3
      have mlt := HX.out.lt
      clear HN HNO HBl
      obtain ⟨w4, rfl⟩ : ∃ wo : World, wo = wr := ⟨_, rfl⟩
      go_wp2_with fail
      clear m0 m1 m2 m3 mlt hq
      go_loopw [6, 7, 11] (fun x y i wr => ∃ j : Nat, j ≤ c.items.length ∧ x = .bool false ∧ y = .bool false ∧ i = .int .i64 j ∧ Hid (Below w4.heap.size w4 wr)) (fun _ _ i _ => c.items.length - (intOf i).toNat)
      case atStart => exact ⟨0, by omega, rfl, rfl, rfl, Lib.hid (Below.refl _ _)⟩
      case round =>
        obtain ⟨j, hj, rfl, rfl, rfl, HBl⟩ := hrel
        have hBk := HBl.out
        replace HB := Lib.hid (HB.out.trans (hBk.mono HB.out.size))
        replace HX := Lib.hid (HX.out.below hBk)
        clear hBk
        try clear m0
        try clear m1
        try clear m2
        try clear m3
        try clear mlt
        have m0 := HX.out.c0
        have m1 := HX.out.c1
        have m2 := HX.out.c2
        have m3 := HX.out.c3
        have mlt := HX.out.lt
        by_cases hlt : j < c.items.length
        · obtain ⟨b, cap, cs, hv, hb, hcs, _, hcc⟩ := SliceOf.at_ (HC.out.items.below HB.out) j hlt
          injection hv with e1 e2 e3
          subst e1
          clear e2 e3
          have x0 := hcc 0 (by omega)
          have x1 := hcc 1 (by omega)
          have x2 := hcc 2 (by omega)
          have x3 := hcc 3 (by omega)
          have x4 := hcc 4 (by omega)
          have x5 := hcc 5 (by omega)
          have x6 := hcc 6 (by omega)
          subst hcs
          simp only [itmC, zv, List.getElem?_cons_succ, List.getElem?_cons_zero, Nat.add_zero] at x0 x1 x2 x3 x4 x5 x6
          have i1 : (j : Int) < (c.items.length : Int) := by omega
          clear hcc
          generalize c.items[j] = n at *
          go_wp2_with fail
          obtain ⟨w5, hw5⟩ : ∃ W, wr.alloc (.cells #[.string ⟨n.toArray⟩, .bool false, .bool false, .bool false, .int .i64 0, .int .i64 0, .int .i64 0] 59) = W := ⟨_, rfl⟩
          have HB5 : Hid (Below wr.heap.size wr w5) := Lib.hid (by rw [← hw5]; exact (Below.refl _ _).alloc (Nat.le_refl _) _)
          have HK5 : Hid (BlkC w5 wr.heap.size 59 [.string ⟨n.toArray⟩, .bool false, .bool false, .bool false, .int .i64 0, .int .i64 0, .int .i64 0]) := Lib.hid (by rw [← hw5]; exact BlkC.new _ _ _)
          rw [hw5]
          clear hw5 x0 x1 x2 x3 x4 x5 x6 m0 m1 m2 m3 mlt
          refine (itemError_any n w5).mono ?_
          rintro e w6 ⟨rfl, hB⟩
          replace HB5 := Lib.hid (HB5.out.trans (hB.mono HB5.out.size))
          replace HK5 := Lib.hid (HK5.out.below hB HK5.out.lt)
          have y1 := HK5.out.cell 1
          have y6 := HK5.out.cell 6
          simp only [List.getElem?_cons_succ, List.getElem?_cons_zero] at y1 y6
          clear hB
          go_wp2_with fail
          go_roundw
          case rel => exact ⟨j + 1, by omega, rfl, rfl, by go_num, Lib.hid (HBl.out.trans (HB5.out.mono HBl.out.size))⟩
          case measure => simp [intOf]; omega
        · have hq : decide ((j : Int) < (c.items.length : Int)) = false := decide_eq_false (by omega)
          clear HBl
          obtain ⟨w5, rfl⟩ : ∃ wo : World, wo = wr := ⟨_, rfl⟩
          go_wp2_with fail
          clear m0 m1 m2 m3 mlt hq
          go_loopw [3, 6, 7, 14] (fun z x y i wr => ∃ j : Nat, j ≤ c.rules.length ∧ z = .bool false ∧ x = .bool false ∧ y = .bool false ∧ i = .int .i64 j ∧ Hid (Below w5.heap.size w5 wr)) (fun _ _ _ i _ => c.rules.length - (intOf i).toNat)
          case atStart => exact ⟨0, by omega, rfl, rfl, rfl, rfl, Lib.hid (Below.refl _ _)⟩
          case round =>
            obtain ⟨j, hj, rfl, rfl, rfl, rfl, HBl⟩ := hrel
            have hBk := HBl.out
            replace HB := Lib.hid (HB.out.trans (hBk.mono HB.out.size))
            replace HX := Lib.hid (HX.out.below hBk)
            clear hBk
            try clear m0
            try clear m1
            try clear m2
            try clear m3
            try clear mlt
            have m0 := HX.out.c0
            have m1 := HX.out.c1
            have m2 := HX.out.c2
            have m3 := HX.out.c3
            have mlt := HX.out.lt
            by_cases hlt : j < c.rules.length
            · obtain ⟨b, cap, p, hv, hb, hr, hcs⟩ := RulesAt.at_ (HC.out.rules.below HB.out) j hlt
              injection hv with e1 e2 e3
              subst e1
              clear e2 e3
              obtain ⟨c0, c1, c2, c3, c4, c5, c6, c7, c8⟩ := hcs
              have HRE := Lib.hid (ruleErrors_any c.rules[j] p c.items.length wr hr (HF.out.good.each _ (List.getElem_mem hlt)) (by omega))
              unfold rulV at HRE
              have i1 : (j : Int) < (c.rules.length : Int) := by omega
              clear hr
              generalize c.rules[j] = r at *
              go_wp2_with fail
              refine HRE.out.mono ?_
              rintro e w6 ⟨rfl, hB⟩
              have HB6 := Lib.hid (HBl.out.trans (hB.mono HBl.out.size))
              clear hB c0 c1 c2 c3 c4 c5 c6 c7 c8 m0 m1 m2 m3 mlt
              go_wp2_with fail
              go_roundw
              case rel => exact ⟨j + 1, by omega, rfl, rfl, rfl, by go_num, HB6⟩
              case measure => simp [intOf]; omega
            · have hq : decide ((j : Int) < (c.rules.length : Int)) = false := decide_eq_false (by omega)
              clear HBl
              go_wp2_with fail
              go_loopw [3, 6, 7, 18] (fun z x y i wr2 => z = .bool false ∧ x = .bool false ∧ y = .bool false ∧ i = .int .i64 0 ∧ Hid (wr2 = wr)) (fun _ _ _ _ _ => 0)
              case atStart => exact ⟨rfl, rfl, rfl, rfl, Lib.hid rfl⟩
              case round =>
                obtain ⟨rfl, rfl, rfl, rfl, HWQ⟩ := hrel
                obtain rfl := HWQ.out
                clear HWQ
                go_wp2_with fail
                go_loopw [3, 6, 7, 22] (fun z x y i wr2 => z = .bool false ∧ x = .bool false ∧ y = .bool false ∧ i = .int .i64 0 ∧ Hid (wr2 = wr)) (fun _ _ _ _ _ => 0)
                case atStart => exact ⟨rfl, rfl, rfl, rfl, Lib.hid rfl⟩
                case round =>
                  obtain ⟨rfl, rfl, rfl, rfl, HWQ⟩ := hrel
                  obtain rfl := HWQ.out
                  clear HWQ
                  go_wp2_with fail
                  refine (lists_ref _ _ c _ (HC.out.below HB.out) (by omega)).mono ?_
                  rintro e w6 ⟨⟨vl, rfl, hl⟩, hB⟩
                  have HBK := Lib.hid hB
                  have hBk := HBK.out
                  replace HB := Lib.hid (HB.out.trans (hBk.mono HB.out.size))
                  replace HX := Lib.hid (HX.out.below hBk)
                  clear hBk
                  try clear m0
                  try clear m1
                  try clear m2
                  try clear m3
                  try clear mlt
                  have m0 := HX.out.c0
                  have m1 := HX.out.c1
                  have m2 := HX.out.c2
                  have m3 := HX.out.c3
                  have mlt := HX.out.lt
                  have HLG := Lib.hid (lists_good HF.out.good)
                  have hll : (ruleLists c.rules).length ≤ 66 := by rw [ruleLists_len]; omega
                  obtain ⟨ls, hls⟩ : ∃ ls, ruleLists c.rules = ls := ⟨_, rfl⟩
                  rw [hls] at hl HLG hll
                  obtain ⟨la, lc, rfl, hl1, hl2⟩ := hl.form
                  have HL := Lib.hid hl
                  clear hls hl hB HBK m0 m1 m2 m3 mlt
                  go_wp2_with fail
                  go_loopw [6, 7, 27] (fun x y i wr => ∃ j : Nat, j ≤ ls.length ∧ x = .bool false ∧ y = .bool false ∧ i = .int .i64 j ∧ Hid (Below w6.heap.size w6 wr)) (fun _ _ i _ => ls.length - (intOf i).toNat)
                  case atStart => exact ⟨0, by omega, rfl, rfl, rfl, Lib.hid (Below.refl _ _)⟩
                  case round =>
                    obtain ⟨j, hj, rfl, rfl, rfl, HBl⟩ := hrel
                    by_cases hlt : j < ls.length
                    · obtain ⟨b, cap, u, hv, hb, x0, hu⟩ := AmtssAt.at_ (HL.out.below HBl.out) j hlt
                      injection hv with e1 e2 e3
                      subst e1
                      clear e2 e3
                      have HGL := Lib.hid (HLG.out ls[j] (List.getElem_mem hlt))
                      generalize ls[j] = l at *
                      obtain ⟨ua, uc, rfl, hu1, hu2⟩ := hu.form
                      have HT := Lib.hid hu
                      have i1 : (j : Int) < (ls.length : Int) := by omega
                      have HX0 := Lib.hid x0
                      have HBw := Lib.hid (HB.out.trans (HBl.out.mono HB.out.size))
                      have HXw := Lib.hid (HX.out.below HBl.out)
                      obtain ⟨w7, rfl⟩ : ∃ wo : World, wo = wr := ⟨_, rfl⟩
                      have hgl := HGL.out.len
                      clear hu
                      go_wp2_with fail
                      clear x0
                      go_loopw [6, 7, 28] (fun x y i wr => ∃ k : Nat, k ≤ l.length ∧ x = .bool false ∧ y = .bool false ∧ i = .int .i64 k ∧ Hid (Below w7.heap.size w7 wr)) (fun _ _ i _ => l.length - (intOf i).toNat)
                      case atStart => exact ⟨0, by omega, rfl, rfl, rfl, Lib.hid (Below.refl _ _)⟩
                      case round =>
                        obtain ⟨k, hk, rfl, rfl, rfl, HBk⟩ := hrel
                        have x0 := (HBk.out.cell (p := ⟨b, j, none⟩) hb).trans HX0.out
                        have hbr : b < wr.heap.size := Nat.lt_of_lt_of_le hb HBk.out.size
                        by_cases hlt2 : k < l.length
                        · have HXk := Lib.hid (HXw.out.below HBk.out)
                          have HTk := Lib.hid (HT.out.below HBk.out)
                          obtain ⟨b2, cap2, hv, hb2, y0, y1⟩ := AmtsAt.at_ HTk.out k hlt2
                          injection hv with e1 e2 e3
                          subst e1
                          clear e2 e3
                          have hit := HGL.out.all l[k] (List.getElem_mem hlt2)
                          have HSO : Hid (∀ q (hq : q < l.length), q < k → l[q].item < l[k].item) := Lib.hid (fun q hq hqk => List.pairwise_iff_getElem.1 HGL.out.sorted q k hq hlt2 hqk)
                          generalize l[k] = x at *
                          obtain ⟨xi, xn⟩ := x
                          simp only [] at hit y0 y1 HSO
                          have i2 : (k : Int) < (l.length : Int) := by omega
                          have qa : decide ((xi : Int) < 0) = false := decide_eq_false (by omega)
                          have qb : decide ((c.items.length : Int) ≤ (xi : Int)) = false := decide_eq_false (by omega)
                          have qb' : decide (c.items.length ≤ xi) = false := decide_eq_false (by omega)
                          have qc : decide ((xn : Int) < 1) = false := decide_eq_false (by omega)
                          have qd : decide (1099511627776 < (xn : Int)) = false := decide_eq_false (by omega)
                          go_wp2_with fail
                          obtain ⟨w8, hw8⟩ : ∃ W, wr.alloc (.cells #[.int .i64 (xi : Int), .int .i64 (xn : Int)] 88) = W := ⟨_, rfl⟩
                          have HB8 : Hid (Below wr.heap.size wr w8) := Lib.hid (by rw [← hw8]; exact (Below.refl _ _).alloc (Nat.le_refl _) _)
                          have HK8 : Hid (BlkC w8 wr.heap.size 88 [.int .i64 (xi : Int), .int .i64 (xn : Int)]) := Lib.hid (by rw [← hw8]; exact BlkC.new _ _ _)
                          rw [hw8]
                          have z0 := HK8.out.cell 0
                          have z1 := HK8.out.cell 1
                          simp only [List.getElem?_cons_succ, List.getElem?_cons_zero] at z0 z1
                          replace x0 := (HB8.out.cell (p := ⟨b, j, none⟩) hbr).trans x0
                          have HXm := HXk.out.below HB8.out
                          have n0 := HXm.c0
                          have HB9 := Lib.hid (HBk.out.trans (HB8.out.mono HBk.out.size))
                          clear hw8 y0 y1 HXm
                          by_cases hk0 : k = 0
                          · subst hk0
                            refine startK 99 (fun W => W.cell? ⟨b, j, none⟩ = some (.slice (some ⟨b2, 0, none⟩) l.length uc) ∧ W.cell? ⟨wr.heap.size, 0, none⟩ = some (.int .i64 (xi : Int)) ∧ W.cell? ⟨w.heap.size, 0, none⟩ = some (.slice ai c.items.length ci)) (by kernel_rfl) (⟨x0, z0, n0⟩) (fun hHeld => ?_)
                            refine takeK 0 254 (v := ?_) rfl rfl (by kernel_rfl) (by kernel_rfl) (by kernel_rfl) (by kernel_rfl) (fun _ _ _ h => h) (by rfl) ?_ (by assumption) ?_
                            rotate_left
                            · (intro w hSw; go_simp; first | done | with_reducible rfl)
                            simp only [List.setIfInBounds_toArray, List.set_cons_zero, List.set_cons_succ]
                            refine takeK 1 255 (v := ?_) rfl rfl (by kernel_rfl) (by kernel_rfl) (by kernel_rfl) (by kernel_rfl) (fun _ _ _ h => h) (by rfl) ?_ (by assumption) ?_
                            rotate_left
                            · (intro w hSw; go_simp; first | done | with_reducible rfl)
                            simp only [List.setIfInBounds_toArray, List.set_cons_zero, List.set_cons_succ]
                            refine takeK 2 256 (v := ?_) rfl rfl (by kernel_rfl) (by kernel_rfl) (by kernel_rfl) (by kernel_rfl) (fun _ _ _ h => h) (by rfl) ?_ (by assumption) ?_
                            rotate_left
                            · (intro w hSw; go_simp; first | done | with_reducible rfl)
                            simp only [List.setIfInBounds_toArray, List.set_cons_zero, List.set_cons_succ]
                            refine takeK 3 257 (v := ?_) rfl rfl (by kernel_rfl) (by kernel_rfl) (by kernel_rfl) (by kernel_rfl) (fun _ _ _ h => h) (by rfl) ?_ (by assumption) ?_
                            rotate_left
                            · (intro w hSw; go_simp; first | done | with_reducible rfl)
                            simp only [List.setIfInBounds_toArray, List.set_cons_zero, List.set_cons_succ]
                            refine takeK 4 258 (v := ?_) rfl rfl (by kernel_rfl) (by kernel_rfl) (by kernel_rfl) (by kernel_rfl) (fun _ _ _ h => h) (by rfl) ?_ (by assumption) ?_
                            rotate_left
                            · (intro w hSw; go_simp; first | done | with_reducible rfl)
                            simp only [List.setIfInBounds_toArray, List.set_cons_zero, List.set_cons_succ]
                            refine takeK 5 259 (v := ?_) rfl rfl (by kernel_rfl) (by kernel_rfl) (by kernel_rfl) (by kernel_rfl) (fun _ _ _ h => h) (by rfl) ?_ (by assumption) ?_
                            rotate_left
                            · (intro w hSw; go_simp; first | done | with_reducible rfl)
                            simp only [List.setIfInBounds_toArray, List.set_cons_zero, List.set_cons_succ]
                            refine takeK 6 260 (v := ?_) rfl rfl (by kernel_rfl) (by kernel_rfl) (by kernel_rfl) (by kernel_rfl) (fun _ _ _ h => h) (by rfl) ?_ (by assumption) ?_
                            rotate_left
                            · (intro w hSw; go_simp; first | done | with_reducible rfl)
                            simp only [List.setIfInBounds_toArray, List.set_cons_zero, List.set_cons_succ]
                            refine takeK 7 261 (v := ?_) rfl rfl (by kernel_rfl) (by kernel_rfl) (by kernel_rfl) (by kernel_rfl) (fun _ _ _ h => h) (by rfl) ?_ (by assumption) ?_
                            rotate_left
                            · (intro w hSw; go_simp; first | done | with_reducible rfl)
                            simp only [List.setIfInBounds_toArray, List.set_cons_zero, List.set_cons_succ]
                            refine takeK 8 262 (v := ?_) rfl rfl (by kernel_rfl) (by kernel_rfl) (by kernel_rfl) (by kernel_rfl) (fun _ _ _ h => h) (by rfl) ?_ (by assumption) ?_
                            rotate_left
                            · (intro w hSw; go_simp; first | done | with_reducible rfl)
                            simp only [List.setIfInBounds_toArray, List.set_cons_zero, List.set_cons_succ]
                            refine takeK 9 263 (v := ?_) rfl rfl (by kernel_rfl) (by kernel_rfl) (by kernel_rfl) (by kernel_rfl) (fun _ _ _ h => h) (by rfl) ?_ (by assumption) ?_
                            rotate_left
                            · (intro w hSw; go_simp; first | done | with_reducible rfl)
                            simp only [List.setIfInBounds_toArray, List.set_cons_zero, List.set_cons_succ]
                            refine takeK 10 264 (v := ?_) rfl rfl (by kernel_rfl) (by kernel_rfl) (by kernel_rfl) (by kernel_rfl) (fun _ _ _ h => h) (by rfl) ?_ (by assumption) ?_
                            rotate_left
                            · (intro w hSw; go_simp; first | done | with_reducible rfl)
                            simp only [List.setIfInBounds_toArray, List.set_cons_zero, List.set_cons_succ]
                            refine takeK 11 265 (v := ?_) rfl rfl (by kernel_rfl) (by kernel_rfl) (by kernel_rfl) (by kernel_rfl) (fun _ _ _ h => h) (by rfl) ?_ (by assumption) ?_
                            rotate_left
                            · (intro w hSw; go_simp; first | done | with_reducible rfl)
                            simp only [List.setIfInBounds_toArray, List.set_cons_zero, List.set_cons_succ]
                            refine takeK 12 266 (v := ?_) rfl rfl (by kernel_rfl) (by kernel_rfl) (by kernel_rfl) (by kernel_rfl) (fun _ _ _ h => h) (by rfl) ?_ (by assumption) ?_
                            rotate_left
                            · (intro w hSw; go_simp; first | done | with_reducible rfl)
                            simp only [List.setIfInBounds_toArray, List.set_cons_zero, List.set_cons_succ]
                            refine takeK 13 267 (v := ?_) rfl rfl (by kernel_rfl) (by kernel_rfl) (by kernel_rfl) (by kernel_rfl) (fun _ _ _ h => h) (by rfl) ?_ (by assumption) ?_
                            rotate_left
                            · (intro w hSw; go_simp; first | done | with_reducible rfl)
                            simp only [List.setIfInBounds_toArray, List.set_cons_zero, List.set_cons_succ]
                            refine takeK 14 268 (v := ?_) rfl rfl (by kernel_rfl) (by kernel_rfl) (by kernel_rfl) (by kernel_rfl) (fun _ _ _ h => h) (by rfl) ?_ (by assumption) ?_
                            rotate_left
                            · (intro w hSw; go_simp; first | done | with_reducible rfl)
                            simp only [List.setIfInBounds_toArray, List.set_cons_zero, List.set_cons_succ]
                            refine takeK 15 269 (v := ?_) rfl rfl (by kernel_rfl) (by kernel_rfl) (by kernel_rfl) (by kernel_rfl) (fun _ _ _ h => h) (by rfl) ?_ (by assumption) ?_
                            rotate_left
                            · (intro w hSw; go_simp; first | done | with_reducible rfl)
                            simp only [List.setIfInBounds_toArray, List.set_cons_zero, List.set_cons_succ]
                            refine takeK 16 270 (v := ?_) rfl rfl (by kernel_rfl) (by kernel_rfl) (by kernel_rfl) (by kernel_rfl) (fun _ _ _ h => h) (by rfl) ?_ (by assumption) ?_
                            rotate_left
                            · (intro w hSw; go_simp; first | done | with_reducible rfl)
                            simp only [List.setIfInBounds_toArray, List.set_cons_zero, List.set_cons_succ]
                            refine takeK 17 271 (v := ?_) rfl rfl (by kernel_rfl) (by kernel_rfl) (by kernel_rfl) (by kernel_rfl) (fun _ _ _ h => h) (by rfl) ?_ (by assumption) ?_
                            rotate_left
                            · (intro w hSw; go_simp; first | done | with_reducible rfl)
                            simp only [List.setIfInBounds_toArray, List.set_cons_zero, List.set_cons_succ]
                            refine skipK 18 272 rfl rfl (by kernel_rfl) (by kernel_rfl) (by kernel_rfl) (by kernel_rfl) (fun _ _ _ h => h) (by rfl) (by assumption) ?_
                            simp only [List.setIfInBounds_toArray, List.set_cons_zero, List.set_cons_succ]
                            refine skipK 19 273 rfl rfl (by kernel_rfl) (by kernel_rfl) (by kernel_rfl) (by kernel_rfl) (fun _ _ _ h => h) (by rfl) (by assumption) ?_
                            simp only [List.setIfInBounds_toArray, List.set_cons_zero, List.set_cons_succ]
                            refine skipK 20 274 rfl rfl (by kernel_rfl) (by kernel_rfl) (by kernel_rfl) (by kernel_rfl) (fun _ _ _ h => h) (by rfl) (by assumption) ?_
                            simp only [List.setIfInBounds_toArray, List.set_cons_zero, List.set_cons_succ]
                            refine skipK 21 275 rfl rfl (by kernel_rfl) (by kernel_rfl) (by kernel_rfl) (by kernel_rfl) (fun _ _ _ h => h) (by rfl) (by assumption) ?_
                            simp only [List.setIfInBounds_toArray, List.set_cons_zero, List.set_cons_succ]
                            refine skipK 22 276 rfl rfl (by kernel_rfl) (by kernel_rfl) (by kernel_rfl) (by kernel_rfl) (fun _ _ _ h => h) (by rfl) (by assumption) ?_
                            simp only [List.setIfInBounds_toArray, List.set_cons_zero, List.set_cons_succ]
                            refine skipK 23 277 rfl rfl (by kernel_rfl) (by kernel_rfl) (by kernel_rfl) (by kernel_rfl) (fun _ _ _ h => h) (by rfl) (by assumption) ?_
                            simp only [List.setIfInBounds_toArray, List.set_cons_zero, List.set_cons_succ]
                            refine skipK 24 278 rfl rfl (by kernel_rfl) (by kernel_rfl) (by kernel_rfl) (by kernel_rfl) (fun _ _ _ h => h) (by rfl) (by assumption) ?_
                            simp only [List.setIfInBounds_toArray, List.set_cons_zero, List.set_cons_succ]
                            refine skipK 25 279 rfl rfl (by kernel_rfl) (by kernel_rfl) (by kernel_rfl) (by kernel_rfl) (fun _ _ _ h => h) (by rfl) (by assumption) ?_
                            simp only [List.setIfInBounds_toArray, List.set_cons_zero, List.set_cons_succ]
                            refine skipK 26 280 rfl rfl (by kernel_rfl) (by kernel_rfl) (by kernel_rfl) (by kernel_rfl) (fun _ _ _ h => h) (by rfl) (by assumption) ?_
                            simp only [List.setIfInBounds_toArray, List.set_cons_zero, List.set_cons_succ]
                            refine skipK 27 281 rfl rfl (by kernel_rfl) (by kernel_rfl) (by kernel_rfl) (by kernel_rfl) (fun _ _ _ h => h) (by rfl) (by assumption) ?_
                            simp only [List.setIfInBounds_toArray, List.set_cons_zero, List.set_cons_succ]
                            refine skipK 28 282 rfl rfl (by kernel_rfl) (by kernel_rfl) (by kernel_rfl) (by kernel_rfl) (fun _ _ _ h => h) (by rfl) (by assumption) ?_
                            simp only [List.setIfInBounds_toArray, List.set_cons_zero, List.set_cons_succ]
                            refine skipK 29 283 rfl rfl (by kernel_rfl) (by kernel_rfl) (by kernel_rfl) (by kernel_rfl) (fun _ _ _ h => h) (by rfl) (by assumption) ?_
                            simp only [List.setIfInBounds_toArray, List.set_cons_zero, List.set_cons_succ]
                            refine takeK 30 284 (v := ?_) rfl rfl (by kernel_rfl) (by kernel_rfl) (by kernel_rfl) (by kernel_rfl) (fun _ _ _ h => h) (by rfl) ?_ (by assumption) ?_
                            rotate_left
                            · (intro w hSw; go_simp; first | done | with_reducible rfl)
                            simp only [List.setIfInBounds_toArray, List.set_cons_zero, List.set_cons_succ]
                            refine takeK 31 285 (v := ?_) rfl rfl (by kernel_rfl) (by kernel_rfl) (by kernel_rfl) (by kernel_rfl) (fun _ _ _ h => h) (by rfl) ?_ (by assumption) ?_
                            rotate_left
                            · (intro w hSw; go_simp; first | done | with_reducible rfl)
                            simp only [List.setIfInBounds_toArray, List.set_cons_zero, List.set_cons_succ]
                            refine takeK 32 6 (v := ?_) rfl rfl (by kernel_rfl) (by kernel_rfl) (by kernel_rfl) (by kernel_rfl) (fun _ _ _ h => h) (by rfl) ?_ (by assumption) ?_
                            rotate_left
                            · (intro w hSw; go_simp; first | done | with_reducible rfl)
                            simp only [List.setIfInBounds_toArray, List.set_cons_zero, List.set_cons_succ]
                            refine doneK (by kernel_rfl) ?_ _
                            clear hHeld
                            clear x0 z0 n0
                            go_wp2_with fail
                            go_roundw
                            case rel => exact ⟨1, by omega, rfl, rfl, by first | rfl | go_num, Lib.hid HB9.out.drew⟩
                            case measure => simp [intOf]; omega
                          · obtain ⟨m, rfl⟩ : ∃ m, k = m + 1 := ⟨k - 1, by omega⟩
                            obtain ⟨b3, cap3, hv, hb3, v0, v1⟩ := AmtsAt.at_ HTk.out m (by omega)
                            injection hv with e1 e2 e3
                            injection e1 with e1
                            injection e1 with e1
                            subst e1
                            clear e2 e3 v1
                            have hso := HSO.out m (by omega) (by omega)
                            generalize l[m] = y at *
                            obtain ⟨yi, yn⟩ := y
                            simp only [] at v0 hso
                            replace v0 := (HB8.out.cell (p := ⟨b2, m * 2, none⟩) hb2).trans v0
                            have qe : decide ((0 : Int) < ((m + 1 : Nat) : Int)) = true := decide_eq_true (by omega)
                            have qe' : decide ((0 : Int) < (m : Int) + 1) = true := decide_eq_true (by omega)
                            have qf : decide ((xi : Int) ≤ (yi : Int)) = false := decide_eq_false (by omega)
                            have qf' : decide (xi ≤ yi) = false := decide_eq_false (by omega)
                            have qg : IntKind.i64.wrap (((m + 1 : Nat) : Int) - 1) = (m : Int) := by rw [IntWalk.i64_in _ (by omega)]; omega
                            have qh : IntKind.i64.wrap ((m : Int) + 1 - 1) = (m : Int) := by rw [IntWalk.i64_in _ (by omega)]; omega
                            have qi : IntKind.i64.wrap (m : Int) = (m : Int) := IntWalk.i64_in _ (by omega)
                            have i3 : (m : Int) < (l.length : Int) := by omega
                            refine startK 99 (fun W => W.cell? ⟨b, j, none⟩ = some (.slice (some ⟨b2, 0, none⟩) l.length uc) ∧ W.cell? ⟨wr.heap.size, 0, none⟩ = some (.int .i64 (xi : Int)) ∧ W.cell? ⟨w.heap.size, 0, none⟩ = some (.slice ai c.items.length ci) ∧ W.cell? ⟨b2, m * 2, none⟩ = some (.int .i64 (yi : Int))) (by kernel_rfl) (⟨x0, z0, n0, v0⟩) (fun hHeld => ?_)
                            refine takeK 0 254 (v := ?_) rfl rfl (by kernel_rfl) (by kernel_rfl) (by kernel_rfl) (by kernel_rfl) (fun _ _ _ h => h) (by rfl) ?_ (by assumption) ?_
                            rotate_left
                            · (intro w hSw; go_simp; first | done | with_reducible rfl)
                            simp only [List.setIfInBounds_toArray, List.set_cons_zero, List.set_cons_succ]
                            refine takeK 1 255 (v := ?_) rfl rfl (by kernel_rfl) (by kernel_rfl) (by kernel_rfl) (by kernel_rfl) (fun _ _ _ h => h) (by rfl) ?_ (by assumption) ?_
                            rotate_left
                            · (intro w hSw; go_simp; first | done | with_reducible rfl)
                            simp only [List.setIfInBounds_toArray, List.set_cons_zero, List.set_cons_succ]
                            refine takeK 2 256 (v := ?_) rfl rfl (by kernel_rfl) (by kernel_rfl) (by kernel_rfl) (by kernel_rfl) (fun _ _ _ h => h) (by rfl) ?_ (by assumption) ?_
                            rotate_left
                            · (intro w hSw; go_simp; first | done | with_reducible rfl)
                            simp only [List.setIfInBounds_toArray, List.set_cons_zero, List.set_cons_succ]
                            refine takeK 3 257 (v := ?_) rfl rfl (by kernel_rfl) (by kernel_rfl) (by kernel_rfl) (by kernel_rfl) (fun _ _ _ h => h) (by rfl) ?_ (by assumption) ?_
                            rotate_left
                            · (intro w hSw; go_simp; first | done | with_reducible rfl)
                            simp only [List.setIfInBounds_toArray, List.set_cons_zero, List.set_cons_succ]
                            refine takeK 4 258 (v := ?_) rfl rfl (by kernel_rfl) (by kernel_rfl) (by kernel_rfl) (by kernel_rfl) (fun _ _ _ h => h) (by rfl) ?_ (by assumption) ?_
                            rotate_left
                            · (intro w hSw; go_simp; first | done | with_reducible rfl)
                            simp only [List.setIfInBounds_toArray, List.set_cons_zero, List.set_cons_succ]
                            refine takeK 5 259 (v := ?_) rfl rfl (by kernel_rfl) (by kernel_rfl) (by kernel_rfl) (by kernel_rfl) (fun _ _ _ h => h) (by rfl) ?_ (by assumption) ?_
                            rotate_left
                            · (intro w hSw; go_simp; first | done | with_reducible rfl)
                            simp only [List.setIfInBounds_toArray, List.set_cons_zero, List.set_cons_succ]
                            refine takeK 6 260 (v := ?_) rfl rfl (by kernel_rfl) (by kernel_rfl) (by kernel_rfl) (by kernel_rfl) (fun _ _ _ h => h) (by rfl) ?_ (by assumption) ?_
                            rotate_left
                            · (intro w hSw; go_simp; first | done | with_reducible rfl)
                            simp only [List.setIfInBounds_toArray, List.set_cons_zero, List.set_cons_succ]
                            refine takeK 7 261 (v := ?_) rfl rfl (by kernel_rfl) (by kernel_rfl) (by kernel_rfl) (by kernel_rfl) (fun _ _ _ h => h) (by rfl) ?_ (by assumption) ?_
                            rotate_left
                            · (intro w hSw; go_simp; first | done | with_reducible rfl)
                            simp only [List.setIfInBounds_toArray, List.set_cons_zero, List.set_cons_succ]
                            refine takeK 8 262 (v := ?_) rfl rfl (by kernel_rfl) (by kernel_rfl) (by kernel_rfl) (by kernel_rfl) (fun _ _ _ h => h) (by rfl) ?_ (by assumption) ?_
                            rotate_left
                            · (intro w hSw; go_simp; first | done | with_reducible rfl)
                            simp only [List.setIfInBounds_toArray, List.set_cons_zero, List.set_cons_succ]
                            refine takeK 9 263 (v := ?_) rfl rfl (by kernel_rfl) (by kernel_rfl) (by kernel_rfl) (by kernel_rfl) (fun _ _ _ h => h) (by rfl) ?_ (by assumption) ?_
                            rotate_left
                            · (intro w hSw; go_simp; first | done | with_reducible rfl)
                            simp only [List.setIfInBounds_toArray, List.set_cons_zero, List.set_cons_succ]
                            refine takeK 10 264 (v := ?_) rfl rfl (by kernel_rfl) (by kernel_rfl) (by kernel_rfl) (by kernel_rfl) (fun _ _ _ h => h) (by rfl) ?_ (by assumption) ?_
                            rotate_left
                            · (intro w hSw; go_simp; first | done | with_reducible rfl)
                            simp only [List.setIfInBounds_toArray, List.set_cons_zero, List.set_cons_succ]
                            refine takeK 11 265 (v := ?_) rfl rfl (by kernel_rfl) (by kernel_rfl) (by kernel_rfl) (by kernel_rfl) (fun _ _ _ h => h) (by rfl) ?_ (by assumption) ?_
                            rotate_left
                            · (intro w hSw; go_simp; first | done | with_reducible rfl)
                            simp only [List.setIfInBounds_toArray, List.set_cons_zero, List.set_cons_succ]
                            refine takeK 12 266 (v := ?_) rfl rfl (by kernel_rfl) (by kernel_rfl) (by kernel_rfl) (by kernel_rfl) (fun _ _ _ h => h) (by rfl) ?_ (by assumption) ?_
                            rotate_left
                            · (intro w hSw; go_simp; first | done | with_reducible rfl)
                            simp only [List.setIfInBounds_toArray, List.set_cons_zero, List.set_cons_succ]
                            refine takeK 13 267 (v := ?_) rfl rfl (by kernel_rfl) (by kernel_rfl) (by kernel_rfl) (by kernel_rfl) (fun _ _ _ h => h) (by rfl) ?_ (by assumption) ?_
                            rotate_left
                            · (intro w hSw; go_simp; first | done | with_reducible rfl)
                            simp only [List.setIfInBounds_toArray, List.set_cons_zero, List.set_cons_succ]
                            refine takeK 14 268 (v := ?_) rfl rfl (by kernel_rfl) (by kernel_rfl) (by kernel_rfl) (by kernel_rfl) (fun _ _ _ h => h) (by rfl) ?_ (by assumption) ?_
                            rotate_left
                            · (intro w hSw; go_simp; first | done | with_reducible rfl)
                            simp only [List.setIfInBounds_toArray, List.set_cons_zero, List.set_cons_succ]
                            refine takeK 15 269 (v := ?_) rfl rfl (by kernel_rfl) (by kernel_rfl) (by kernel_rfl) (by kernel_rfl) (fun _ _ _ h => h) (by rfl) ?_ (by assumption) ?_
                            rotate_left
                            · (intro w hSw; go_simp; first | done | with_reducible rfl)
                            simp only [List.setIfInBounds_toArray, List.set_cons_zero, List.set_cons_succ]
                            refine takeK 16 270 (v := ?_) rfl rfl (by kernel_rfl) (by kernel_rfl) (by kernel_rfl) (by kernel_rfl) (fun _ _ _ h => h) (by rfl) ?_ (by assumption) ?_
                            rotate_left
                            · (intro w hSw; go_simp; first | done | with_reducible rfl)
                            simp only [List.setIfInBounds_toArray, List.set_cons_zero, List.set_cons_succ]
                            refine takeK 17 271 (v := ?_) rfl rfl (by kernel_rfl) (by kernel_rfl) (by kernel_rfl) (by kernel_rfl) (fun _ _ _ h => h) (by rfl) ?_ (by assumption) ?_
                            rotate_left
                            · (intro w hSw; go_simp; first | done | with_reducible rfl)
                            simp only [List.setIfInBounds_toArray, List.set_cons_zero, List.set_cons_succ]
                            refine takeK 18 272 (v := ?_) rfl rfl (by kernel_rfl) (by kernel_rfl) (by kernel_rfl) (by kernel_rfl) (fun _ _ _ h => h) (by rfl) ?_ (by assumption) ?_
                            rotate_left
                            · (intro w hSw; go_simp; first | done | with_reducible rfl)
                            simp only [List.setIfInBounds_toArray, List.set_cons_zero, List.set_cons_succ]
                            refine takeK 19 273 (v := ?_) rfl rfl (by kernel_rfl) (by kernel_rfl) (by kernel_rfl) (by kernel_rfl) (fun _ _ _ h => h) (by rfl) ?_ (by assumption) ?_
                            rotate_left
                            · (intro w hSw; go_simp; first | done | with_reducible rfl)
                            simp only [List.setIfInBounds_toArray, List.set_cons_zero, List.set_cons_succ]
                            refine takeK 20 274 (v := ?_) rfl rfl (by kernel_rfl) (by kernel_rfl) (by kernel_rfl) (by kernel_rfl) (fun _ _ _ h => h) (by rfl) ?_ (by assumption) ?_
                            rotate_left
                            · (intro w hSw; go_simp; first | done | with_reducible rfl)
                            simp only [List.setIfInBounds_toArray, List.set_cons_zero, List.set_cons_succ]
                            refine takeK 21 275 (v := ?_) rfl rfl (by kernel_rfl) (by kernel_rfl) (by kernel_rfl) (by kernel_rfl) (fun _ _ _ h => h) (by rfl) ?_ (by assumption) ?_
                            rotate_left
                            · (intro w hSw; go_simp; first | done | with_reducible rfl)
                            simp only [List.setIfInBounds_toArray, List.set_cons_zero, List.set_cons_succ]
                            refine takeK 22 276 (v := ?_) rfl rfl (by kernel_rfl) (by kernel_rfl) (by kernel_rfl) (by kernel_rfl) (fun _ _ _ h => h) (by rfl) ?_ (by assumption) ?_
                            rotate_left
                            · (intro w hSw; go_simp; first | done | with_reducible rfl)
                            simp only [List.setIfInBounds_toArray, List.set_cons_zero, List.set_cons_succ]
                            refine takeK 23 277 (v := ?_) rfl rfl (by kernel_rfl) (by kernel_rfl) (by kernel_rfl) (by kernel_rfl) (fun _ _ _ h => h) (by rfl) ?_ (by assumption) ?_
                            rotate_left
                            · (intro w hSw; go_simp; first | done | with_reducible rfl)
                            simp only [List.setIfInBounds_toArray, List.set_cons_zero, List.set_cons_succ]
                            refine takeK 24 278 (v := ?_) rfl rfl (by kernel_rfl) (by kernel_rfl) (by kernel_rfl) (by kernel_rfl) (fun _ _ _ h => h) (by rfl) ?_ (by assumption) ?_
                            rotate_left
                            · (intro w hSw; go_simp; first | done | with_reducible rfl)
                            simp only [List.setIfInBounds_toArray, List.set_cons_zero, List.set_cons_succ]
                            refine takeK 25 279 (v := ?_) rfl rfl (by kernel_rfl) (by kernel_rfl) (by kernel_rfl) (by kernel_rfl) (fun _ _ _ h => h) (by rfl) ?_ (by assumption) ?_
                            rotate_left
                            · (intro w hSw; go_simp; first | done | with_reducible rfl)
                            simp only [List.setIfInBounds_toArray, List.set_cons_zero, List.set_cons_succ]
                            refine takeK 26 280 (v := ?_) rfl rfl (by kernel_rfl) (by kernel_rfl) (by kernel_rfl) (by kernel_rfl) (fun _ _ _ h => h) (by rfl) ?_ (by assumption) ?_
                            rotate_left
                            · (intro w hSw; go_simp; first | done | with_reducible rfl)
                            simp only [List.setIfInBounds_toArray, List.set_cons_zero, List.set_cons_succ]
                            refine takeK 27 281 (v := ?_) rfl rfl (by kernel_rfl) (by kernel_rfl) (by kernel_rfl) (by kernel_rfl) (fun _ _ _ h => h) (by rfl) ?_ (by assumption) ?_
                            rotate_left
                            · (intro w hSw; go_simp; first | done | with_reducible rfl)
                            simp only [List.setIfInBounds_toArray, List.set_cons_zero, List.set_cons_succ]
                            refine takeK 28 282 (v := ?_) rfl rfl (by kernel_rfl) (by kernel_rfl) (by kernel_rfl) (by kernel_rfl) (fun _ _ _ h => h) (by rfl) ?_ (by assumption) ?_
                            rotate_left
                            · (intro w hSw; go_simp; first | done | with_reducible rfl)
                            simp only [List.setIfInBounds_toArray, List.set_cons_zero, List.set_cons_succ]
                            refine takeK 29 283 (v := ?_) rfl rfl (by kernel_rfl) (by kernel_rfl) (by kernel_rfl) (by kernel_rfl) (fun _ _ _ h => h) (by rfl) ?_ (by assumption) ?_
                            rotate_left
                            · (intro w hSw; go_simp; first | done | with_reducible rfl)
                            simp only [List.setIfInBounds_toArray, List.set_cons_zero, List.set_cons_succ]
                            refine takeK 30 284 (v := ?_) rfl rfl (by kernel_rfl) (by kernel_rfl) (by kernel_rfl) (by kernel_rfl) (fun _ _ _ h => h) (by rfl) ?_ (by assumption) ?_
                            rotate_left
                            · (intro w hSw; go_simp; first | done | with_reducible rfl)
                            simp only [List.setIfInBounds_toArray, List.set_cons_zero, List.set_cons_succ]
                            refine takeK 31 285 (v := ?_) rfl rfl (by kernel_rfl) (by kernel_rfl) (by kernel_rfl) (by kernel_rfl) (fun _ _ _ h => h) (by rfl) ?_ (by assumption) ?_
                            rotate_left
                            · (intro w hSw; go_simp; first | done | with_reducible rfl)
                            simp only [List.setIfInBounds_toArray, List.set_cons_zero, List.set_cons_succ]
                            refine takeK 32 6 (v := ?_) rfl rfl (by kernel_rfl) (by kernel_rfl) (by kernel_rfl) (by kernel_rfl) (fun _ _ _ h => h) (by rfl) ?_ (by assumption) ?_
                            rotate_left
                            · (intro w hSw; go_simp; first | done | with_reducible rfl)
                            simp only [List.setIfInBounds_toArray, List.set_cons_zero, List.set_cons_succ]
                            refine doneK (by kernel_rfl) ?_ _
                            clear hHeld
                            clear x0 z0 n0 v0
                            go_wp2_with fail
                            go_roundw
                            case rel => exact ⟨m + 2, by omega, rfl, rfl, by go_num, Lib.hid HB9.out.drew⟩
                            case measure => simp [intOf]; omega
                        · have hq : decide ((k : Int) < (l.length : Int)) = false := decide_eq_false (by omega)
                          go_wp2_with fail
                          go_roundw
                          case rel => exact ⟨j + 1, by omega, rfl, rfl, by go_num, Lib.hid (HBl.out.trans (HBk.out.mono HBl.out.size))⟩
                          case measure => simp [intOf]; omega
                    · have hq : decide ((j : Int) < (ls.length : Int)) = false := decide_eq_false (by omega)
                      have HBw := Lib.hid (HB.out.trans (HBl.out.mono HB.out.size))
                      clear HBl
                      go_wp2_with fail
                      obtain ⟨w8, hw8⟩ : ∃ W, (wr.alloc (.cells #[.bool false, .bool false, .bool false, .bool false, .bool false] 4)).alloc (.cells #[.int .i64 4, .int .i64 6, .int .i64 8, .int .i64 1, .int .i64 5] 33) = W := ⟨_, rfl⟩
                      have HK8 : Hid (BlkC w8 wr.heap.size 4 [.bool false, .bool false, .bool false, .bool false, .bool false]) := Lib.hid (by rw [← hw8]; exact (BlkC.new _ _ _).alloc _)
                      have HB8 : Hid (Below w.heap.size w w8) := Lib.hid (by rw [← hw8]; exact (HBw.out.alloc HBw.out.size _).alloc (by simp; have := HBw.out.size; omega) _)
                      rw [hw8]
                      clear hw8 hq HBw
                      go_loopw [32] (fun i wr2 => ∃ k : Nat, k ≤ 5 ∧ i = .int .i64 k ∧ Hid (wr2 = w8)) (fun i _ => 5 - (intOf i).toNat)
                      case atStart => exact ⟨0, by omega, rfl, Lib.hid rfl⟩
                      case round =>
                        obtain ⟨k, hk, rfl, HWQ⟩ := hrel
                        obtain rfl := HWQ.out
                        clear HWQ
                        by_cases hlt : k < 5
                        · have x0 := HK8.out.cell k
                          rw [five_false k hlt] at x0
                          have i1 : (k : Int) < 5 := by omega
                          go_wp2_with fail
                          go_roundw
                          case rel => exact ⟨k + 1, by omega, by go_num, Lib.hid (by first | trivial | rfl)⟩
                          case measure => simp [intOf]; omega
                        · have hq : decide ((k : Int) < 5) = false := decide_eq_false (by omega)
                          go_wp2_with fail
                          go_ret
                          exact ⟨rfl, HB8.out⟩
end Go.Proofs.YtfpcgjgkbniofaaGreatDoor
