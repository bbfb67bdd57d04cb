/- The law LexerApart: it returns true. -/
import Derived.Test.YtndlecddgihihaaDoorApartPlain
import Derived.Test.YtndlecddgihihaaDoorLives
import Derived.Test.YtndlecddgihihaaDoorAppend
namespace Go.Proofs.YtndlecddgihihaaDoor
open Go.RowKit

theorem lx_of_lxs (l : Bs) (ts : List Tok) (hl : l.length ≤ 8192) (h : lxs ⟨l.toArray⟩ = .ok ts) : lx l.length l = .ok ts := by
  unfold lxs at h
  have hz : (⟨l.toArray⟩ : ByteArray).size = l.length := rfl
  rw [hz, if_neg (by omega)] at h
  exact h

theorem lxs_of_lx (l : Bs) (ts : List Tok) (hl : l.length ≤ 8192) (h : lx l.length l = .ok ts) : lxs ⟨l.toArray⟩ = .ok ts := by
  unfold lxs
  have hz : (⟨l.toArray⟩ : ByteArray).size = l.length := rfl
  rw [hz, if_neg (by omega)]
  exact h

/-- the tokens of a text that has no error -/
theorem tokens_known (s : ByteArray) (ts : List Tok) (w : World) (hs : s.size ≤ 8192) (h : lxs s = .ok ts) (hK : Kinds w) :
    Calls Tryd.prog 18 #[.string s] w fun e w' => ∃ v, e = .returned (.tuple #[v, .int .i64 0, .int .i64 0]) ∧ ts.length ≤ s.size ∧ w'.ownsRow w.heap.size 41 4 v ts.length (cellsOf ts) ∧ Below w.heap.size w w' := by
  refine (tokens_any s w (by omega) hK).mono ?_
  rintro e w' ⟨hB, ⟨ts', v, hx', hlen, rfl, hown⟩ | ⟨k, er, hx', rfl, _⟩⟩
  · rw [h] at hx'
    cases hx'
    exact ⟨v, rfl, hlen, hown, hB⟩
  · rw [h] at hx'; cases hx'

theorem oneCell_cellsOf (ts : List Tok) : ∀ u ∈ cellsOf ts, u.oneCell' = true := by
  intro u hu
  unfold cellsOf at hu
  obtain ⟨t, _, ht⟩ := List.mem_flatMap.1 hu
  unfold tokCells at ht
  simp only [List.mem_cons, List.not_mem_nil, or_false] at ht
  rcases ht with rfl | rfl | rfl | rfl <;> rfl

theorem sepA_cell (q : Int) (h0 : 0 ≤ q) (h1 : q < 4) (w : World) (g : Nat) (hg : g = w.heap.size) :
    (w.alloc (.cells #[.string ⟨#[32]⟩, .string ⟨#[10]⟩, .string ⟨#[32, 9]⟩, .string ⟨#[35, 120, 10]⟩] 9)).cell? ⟨g, q.toNat, none⟩ = some (.string ⟨(sepA.getD q.toNat []).toArray⟩) := by
  subst hg
  rw [cell_of_row _ w.heap.size q.toNat _ 9 (0, 0) (World.alloc_heap_new w _)]
  have hq : q = 0 ∨ q = 1 ∨ q = 2 ∨ q = 3 := by omega
  rcases hq with rfl | rfl | rfl | rfl <;> rfl

set_option maxRecDepth 100000 in
set_option maxHeartbeats 4000000 in
theorem lexerApart_any (v1 v2 v3 : Value) (zs ys hs : List Int) (n1 n2 n3 : Nat) (w : World) (hl1 : IntsAt w v1 zs n1) (hl2 : IntsAt w v2 ys n2) (hl3 : IntsAt w v3 hs n3) (hK : Kinds w) :
    Calls Tryd.prog 8 #[v1, v2, v3] w fun e w' => e = .returned (.bool true) ∧ Below w.heap.size w w' := by
  have HK := Lib.hid hK
  have Hl1 := Lib.hid hl1
  have Hl2 := Lib.hid hl2
  have Hl3 := Lib.hid hl3
  have hg := hK.lt
  have hc1 := cleanText_len zs n1
  have hc2 := cleanText_len ys n2
  obtain ⟨ts, hts⟩ := cleanText_ok zs n1
  obtain ⟨us, hus⟩ := cleanText_ok ys n2
  have Hts := Lib.hid hts
  have Hus := Lib.hid hus
  have hx1 := lx_of_lxs _ ts (by omega) hts
  have hx2 := lx_of_lxs _ us (by omega) hus
  obtain ⟨vs, hvs, hsame⟩ := join_nl _ _ _ _ hx1 hx2
  have Hx1 := Lib.hid hx1
  have Hvs := Lib.hid hvs
  have Hsame := Lib.hid hsame
  clear hK hl1 hl2 hl3 hts hus hx1 hx2 hvs hsame
  have Hc1 := Lib.hid (fun w h => clean_any v1 zs n1 w h)
  have Hc2 := Lib.hid (fun w h => clean_any v2 ys n2 w h)
  generalize cleanText zs n1 = A at *
  generalize cleanText ys n2 = B at *
  go_enter Tryd.func8, Tryd.ntmps8
  go_wp2_with fail
  refine (Hc1.out w Hl1.out).mono ?_
  rintro e w1 ⟨rfl, hB1⟩
  have HB1 := Lib.hid hB1
  have z1 := hB1.size
  clear hB1
  go_wp2_with fail
  refine (tokens_known ⟨A.toArray⟩ ts w1 (by show A.length ≤ _; omega) Hts.out (HK.out.below HB1.out hg)).mono ?_
  rintro e w2 ⟨va, rfl, hlen, hown, hB2⟩
  have hlen1 : ts.length ≤ 456 := Nat.le_trans hlen (by show A.length ≤ _; omega)
  have HB2 := Lib.hid (HB1.out.trans (hB2.mono z1))
  have z2 := HB2.out.size
  have Hown1 := Lib.hid (ownsRow_base z1 hown)
  clear hB2 hown hlen
  go_wp2_with fail
  refine (Hc2.out w2 (Hl2.out.below (Nat.le_refl _) HB2.out)).mono ?_
  rintro e w3 ⟨rfl, hB3⟩
  have HB3 := Lib.hid (HB2.out.trans (hB3.mono z2))
  have Hown2 := Lib.hid (ownsRow_below Hown1.out hB3)
  have z3 := HB3.out.size
  clear hB3 Hown1
  go_wp2_with fail
  refine (tokens_known ⟨B.toArray⟩ us w3 (by show B.length ≤ _; omega) Hus.out (HK.out.below HB3.out hg)).mono ?_
  rintro e w4 ⟨vb, rfl, hlen, hown, hB4⟩
  have hlen2 : us.length ≤ 456 := Nat.le_trans hlen (by show B.length ≤ _; omega)
  have HB4 := Lib.hid (HB3.out.trans (hB4.mono z3))
  have z4 := HB4.out.size
  have Hown3 := Lib.hid (ownsRow_below Hown2.out hB4)
  have Hownb := Lib.hid (ownsRow_base z3 hown)
  clear hB4 hown hlen Hown2
  go_wp2_with fail
  refine (Hc2.out w4 (Hl2.out.below (Nat.le_refl _) HB4.out)).mono ?_
  rintro e w5 ⟨rfl, hB5⟩
  have HB5 := Lib.hid (HB4.out.trans (hB5.mono z4))
  have Hown4 := Lib.hid (ownsRow_below Hown3.out hB5)
  have Hownb2 := Lib.hid (ownsRow_below Hownb.out hB5)
  have z5 := HB5.out.size
  clear hB5 Hown3 Hownb
  go_wp2_with fail
  have hJ : (⟨A.toArray⟩ : ByteArray) ++ ⟨#[10]⟩ ++ ⟨B.toArray⟩ = ⟨(A ++ 10 :: B).toArray⟩ := by
    rw [show (⟨#[10]⟩ : ByteArray) = ⟨([10] : Bs).toArray⟩ from rfl, ba_append, ba_append, List.append_assoc]; rfl
  have hJ1 : (A ++ 10 :: B).length ≤ 1000 := by rw [List.length_append, List.length_cons]; omega
  refine (tokens_known _ vs w5 (by rw [hJ]; show (A ++ 10 :: B).length ≤ _; omega) (by rw [hJ]; exact lxs_of_lx _ _ (by omega) Hvs.out) (HK.out.below HB5.out hg)).mono ?_
  rintro e w6 ⟨vc, rfl, hlen, hown, hB6⟩
  have hlen3 : vs.length ≤ 1000 := Nat.le_trans hlen (by rw [hJ]; exact hJ1)
  have HB6 := Lib.hid (HB5.out.trans (hB6.mono z5))
  have z6 := HB6.out.size
  have Hown5 := Lib.hid (ownsRow_below Hown4.out hB6)
  have Hownb3 := Lib.hid (ownsRow_below Hownb2.out hB6)
  have Hownc := Lib.hid (ownsRow_base z5 hown)
  clear hB6 hown hlen Hown4 Hownb2 hJ hJ1
  have ht := TokAt.of_owns Hown5.out
  have hlt2 := Hown5.out.lt
  obtain ⟨a0, cap, hva, hcap, hcells⟩ : ∃ a0 cap, va = .slice a0 ts.length cap ∧ cap ≤ 9223372036854775807 ∧ ∀ i (hi : i < ts.length), ∃ g, a0 = some ⟨g, 0, none⟩ ∧ g < w6.heap.size ∧ ts.length ≤ cap ∧ w6.cell? ⟨g, i * 4 + 1, none⟩ = some (.string ⟨ts[i].text.toArray⟩) := by
    rcases ht with ⟨rfl, rfl⟩ | ⟨g, cap, rfl, h1, h2, h3⟩
    · exact ⟨none, 0, rfl, by omega, fun i hi => absurd hi (by simp)⟩
    · exact ⟨_, cap, rfl, by unfold maxLen at h2; omega, fun i hi => ⟨g, rfl, (hlt2 g rfl).2, h1, h3 _ _ (cellsOf_get ts i hi).2.1⟩⟩
  subst hva
  have Hcells := Lib.hid hcells
  clear hcells ht hlt2
  have Hsep := Lib.hid (sepAt_is hs n3)
  have Hbd := Lib.hid (fun i hi => apartTo_bound (sepAt hs n3) ts (sepAt_is hs n3) _ A (by omega) Hx1.out i hi)
  obtain ⟨n, hn⟩ : ∃ n, ts.length = n := ⟨_, rfl⟩
  have Hn := Lib.hid hn
  rw [hn] at hlen1 ⊢
  clear hn
  go_wp2_with fail
  go_loopw [17, 18] (fun t i wr => ∃ (j : Nat), j ≤ n ∧ i = .int .i64 j ∧ t = .string ⟨(apartTo (sepAt hs n3) ts j).toArray⟩ ∧ Hid (Below w6.heap.size w6 wr)) (fun _ i _ => n - (intOf i).toNat)
  case atStart => exact ⟨0, by omega, rfl, rfl, Lib.hid (Below.refl _ _)⟩
  case round =>
    obtain ⟨j, hj, rfl, rfl, hB⟩ := hrel
    have z2r := hB.out.size
    by_cases hlt : j < n
    · have hjt : j < ts.length := by rw [Hn.out]; exact hlt
      obtain ⟨g, rfl, hgb, hlc, hc1c⟩ := Hcells.out j hjt
      rw [Hn.out] at hlc
      have c1 := (hB.out.cell (p := ⟨g, j * 4 + 1, none⟩) hgb).trans hc1c
      clear hc1c
      have hst : Hid (apartTo (sepAt hs n3) ts (j + 1) = apartTo (sepAt hs n3) ts j ++ (sepA.getD (pickN hs n3 j 4).toNat [] ++ (ts[j]'hjt).text)) := Lib.hid (by
        rw [apartTo, List.getElem?_eq_getElem hjt]; rfl)
      have hbd := Hbd.out (j + 1) (by rw [Hn.out]; omega)
      rw [hst.out, List.length_append, List.length_append] at hbd
      have hq := pickN_range hs n3 j 4 (by omega)
      have Hp := Lib.hid (fun w h => pick_any v3 hs n3 j 4 w h (by omega) (by omega) (by omega))
      have HIr := Lib.hid (Hl3.out.below (Nat.le_refl _) ((HB6.out.trans (hB.out.mono z6)).drew))
      have HIw := Lib.hid (Hl3.out.below (Nat.le_refl _) (((HB6.out.trans (hB.out.mono z6)).alloc (by omega) (.cells #[.string ⟨#[32]⟩, .string ⟨#[10]⟩, .string ⟨#[32, 9]⟩, .string ⟨#[35, 120, 10]⟩] 9)).drew))
      have sepc := sepA_cell (pickN hs n3 j 4) hq.1 hq.2
      generalize pickN hs n3 j 4 = q at *
      generalize (ts[j]'hjt).text = tx at *
      generalize sepA.getD q.toNat [] = sp at *
      generalize apartTo (sepAt hs n3) ts j = T at *
      have hk0 : (0 : Int) ≤ (j : Int) := by omega
      have hk1 : (j : Int) < (n : Int) := by omega
      have hcat1 : ¬ (9223372036854775807 < T.length + sp.length) := by omega
      have hcat2 : ¬ (9223372036854775807 < T.length + sp.length + tx.length) := by omega
      have hgw : g < wr.heap.size := by omega
      go_wp2_with fail
      refine wp_region_held_drew (S := fun w' => w'.cell? ⟨g, j * 4 + 1, none⟩ = some (.string ⟨tx.toArray⟩)) (by kernel_rfl) (by simpa using c1) (fun hHeld => ?_)
      refine takeH 0 53 (v := ?_) rfl rfl (by kernel_rfl) (by kernel_rfl) (by kernel_rfl) (fun _ _ _ h => h) (by rfl) ?_ (by assumption) ?_
      rotate_left
      · (intro w hSw; go_simp; first | done | with_reducible rfl)
      simp only [List.setIfInBounds_toArray, List.set_cons_zero, List.set_cons_succ]
      refine takeH 2 55 (v := ?_) rfl rfl (by kernel_rfl) (by kernel_rfl) (by kernel_rfl) (fun _ _ _ h => h) (by rfl) ?_ (by assumption) ?_
      rotate_left
      · (intro w hSw; go_simp; first | done | with_reducible rfl)
      simp only [List.setIfInBounds_toArray, List.set_cons_zero, List.set_cons_succ]
      refine takeH 3 56 (v := ?_) rfl rfl (by kernel_rfl) (by kernel_rfl) (by kernel_rfl) (fun _ _ _ h => h) (by rfl) ?_ (by assumption) ?_
      rotate_left
      · (intro w hSw; go_simp; first | done | with_reducible rfl)
      simp only [List.setIfInBounds_toArray, List.set_cons_zero, List.set_cons_succ]
      refine takeH 8 61 (v := ?_) rfl rfl (by kernel_rfl) (by kernel_rfl) (by kernel_rfl) (fun _ _ _ h => h) (by rfl) ?_ (by assumption) ?_
      rotate_left
      · (intro w hSw; go_simp; first | done | with_reducible rfl)
      simp only [List.setIfInBounds_toArray, List.set_cons_zero, List.set_cons_succ]
      refine takeH 9 62 (v := ?_) rfl rfl (by kernel_rfl) (by kernel_rfl) (by kernel_rfl) (fun _ _ _ h => h) (by rfl) ?_ (by assumption) ?_
      rotate_left
      · (intro w hSw; go_simp; first | done | with_reducible rfl)
      simp only [List.setIfInBounds_toArray, List.set_cons_zero, List.set_cons_succ]
      refine takeH 10 63 (v := ?_) rfl rfl (by kernel_rfl) (by kernel_rfl) (by kernel_rfl) (fun _ _ _ h => h) (by rfl) ?_ (by assumption) ?_
      rotate_left
      · (intro w hSw; go_simp; first | done | with_reducible rfl)
      simp only [List.setIfInBounds_toArray, List.set_cons_zero, List.set_cons_succ]
      refine takeH 11 64 (v := ?_) rfl rfl (by kernel_rfl) (by kernel_rfl) (by kernel_rfl) (fun _ _ _ h => h) (by rfl) ?_ (by assumption) ?_
      rotate_left
      · (intro w hSw; go_simp; first | done | with_reducible rfl)
      simp only [List.setIfInBounds_toArray, List.set_cons_zero, List.set_cons_succ]
      refine takeH 12 65 (v := ?_) rfl rfl (by kernel_rfl) (by kernel_rfl) (by kernel_rfl) (fun _ _ _ h => h) (by rfl) ?_ (by assumption) ?_
      rotate_left
      · (intro w hSw; go_simp; first | done | with_reducible rfl)
      simp only [List.setIfInBounds_toArray, List.set_cons_zero, List.set_cons_succ]
      refine wpAnyH_ready (rs := [1, 4]) (by kernel_rfl) (by simp) ?_
      refine AllReadyH.cons (i := 1) rfl (fun K hK => ?_) ?_
      · skip
        go_simp
        refine hK.out _ _ ?_ (fun hHeld => ?_)
        · (first | exact hHeld | go_keep)
        clear hK K
        try simp only [Act.put, List.setIfInBounds_toArray, List.set_cons_zero, List.set_cons_succ]
        refine strongH (S' := fun w' => w'.cell? ⟨g, j * 4 + 1, none⟩ = some (.string ⟨tx.toArray⟩) ∧ w'.cell? ⟨wr.heap.size, q.toNat, none⟩ = some (.string ⟨sp.toArray⟩)) (fun _ h => h.1) ⟨hHeld, ?_⟩ (fun hHeld => ?_)
        · exact sepc _ _ (by simp)
        refine wpAnyH_ready (rs := [4]) (by kernel_rfl) (by simp) ?_
        refine AllReadyH.cons (i := 4) rfl (fun K hK => ?_) ?_
        · skip
          go_simp
          refine (Hp.out _ HIw.out).mono ?_; rintro e w' ⟨rfl, rfl⟩
          go_wp2_with fail
          refine hK.out _ _ ?_ (fun hHeld => ?_)
          · (first | exact hHeld | go_keep)
          clear hK K
          try simp only [Act.put, List.setIfInBounds_toArray, List.set_cons_zero, List.set_cons_succ]
          refine takeH 5 58 (v := ?_) rfl rfl (by kernel_rfl) (by kernel_rfl) (by kernel_rfl) (fun _ _ _ h => h) (by rfl) ?_ (by assumption) ?_
          rotate_left
          · (intro w hSw; go_simp; first | done | with_reducible rfl)
          simp only [List.setIfInBounds_toArray, List.set_cons_zero, List.set_cons_succ]
          refine takeH 6 59 (v := ?_) rfl rfl (by kernel_rfl) (by kernel_rfl) (by kernel_rfl) (fun _ _ _ h => h) (by rfl) ?_ (by assumption) ?_
          rotate_left
          · (intro w hSw; go_simp; first | done | with_reducible rfl)
          simp only [List.setIfInBounds_toArray, List.set_cons_zero, List.set_cons_succ]
          refine takeH 7 60 (v := ?_) rfl rfl (by kernel_rfl) (by kernel_rfl) (by kernel_rfl) (fun _ _ _ h => h) (by rfl) ?_ (by assumption) ?_
          rotate_left
          · (intro w hSw; go_simp; first | done | with_reducible rfl)
          simp only [List.setIfInBounds_toArray, List.set_cons_zero, List.set_cons_succ]
          refine takeH 13 66 (v := ?_) rfl rfl (by kernel_rfl) (by kernel_rfl) (by kernel_rfl) (fun _ _ _ h => h) (by rfl) ?_ (by assumption) ?_
          rotate_left
          · (intro w hSw; go_simp; first | done | with_reducible rfl)
          simp only [List.setIfInBounds_toArray, List.set_cons_zero, List.set_cons_succ]
          refine takeH 14 17 (v := ?_) rfl rfl (by kernel_rfl) (by kernel_rfl) (by kernel_rfl) (fun _ _ _ h => h) (by rfl) ?_ (by assumption) ?_
          rotate_left
          · (intro w hSw; go_simp; first | done | with_reducible rfl)
          simp only [List.setIfInBounds_toArray, List.set_cons_zero, List.set_cons_succ]
          refine wpAnyH_done (by kernel_rfl) ?_ _
          clear hHeld
          go_wp2
          go_roundw
          case rel => exact ⟨j + 1, by omega, by go_num, by rw [hst.out, ba_append, ba_append, List.append_assoc], Lib.hid ((hB.out.alloc z2r _).drew)⟩
          case measure => simp [intOf]; omega
        exact AllReadyH.nil
      refine AllReadyH.cons (i := 4) rfl (fun K hK => ?_) ?_
      · skip
        go_simp
        refine (Hp.out _ HIr.out).mono ?_; rintro e w' ⟨rfl, rfl⟩
        go_wp2_with fail
        refine hK.out _ _ ?_ (fun hHeld => ?_)
        · (first | exact hHeld | go_keep)
        clear hK K
        try simp only [Act.put, List.setIfInBounds_toArray, List.set_cons_zero, List.set_cons_succ]
        refine wpAnyH_ready (rs := [1]) (by kernel_rfl) (by simp) ?_
        refine AllReadyH.cons (i := 1) rfl (fun K hK => ?_) ?_
        · skip
          go_simp
          refine hK.out _ _ ?_ (fun hHeld => ?_)
          · (first | exact hHeld | go_keep)
          clear hK K
          try simp only [Act.put, List.setIfInBounds_toArray, List.set_cons_zero, List.set_cons_succ]
          refine strongH (S' := fun w' => w'.cell? ⟨g, j * 4 + 1, none⟩ = some (.string ⟨tx.toArray⟩) ∧ w'.cell? ⟨wr.heap.size, q.toNat, none⟩ = some (.string ⟨sp.toArray⟩)) (fun _ h => h.1) ⟨hHeld, ?_⟩ (fun hHeld => ?_)
          · exact sepc _ _ (by simp)
          refine takeH 5 58 (v := ?_) rfl rfl (by kernel_rfl) (by kernel_rfl) (by kernel_rfl) (fun _ _ _ h => h) (by rfl) ?_ (by assumption) ?_
          rotate_left
          · (intro w hSw; go_simp; first | done | with_reducible rfl)
          simp only [List.setIfInBounds_toArray, List.set_cons_zero, List.set_cons_succ]
          refine takeH 6 59 (v := ?_) rfl rfl (by kernel_rfl) (by kernel_rfl) (by kernel_rfl) (fun _ _ _ h => h) (by rfl) ?_ (by assumption) ?_
          rotate_left
          · (intro w hSw; go_simp; first | done | with_reducible rfl)
          simp only [List.setIfInBounds_toArray, List.set_cons_zero, List.set_cons_succ]
          refine takeH 7 60 (v := ?_) rfl rfl (by kernel_rfl) (by kernel_rfl) (by kernel_rfl) (fun _ _ _ h => h) (by rfl) ?_ (by assumption) ?_
          rotate_left
          · (intro w hSw; go_simp; first | done | with_reducible rfl)
          simp only [List.setIfInBounds_toArray, List.set_cons_zero, List.set_cons_succ]
          refine takeH 13 66 (v := ?_) rfl rfl (by kernel_rfl) (by kernel_rfl) (by kernel_rfl) (fun _ _ _ h => h) (by rfl) ?_ (by assumption) ?_
          rotate_left
          · (intro w hSw; go_simp; first | done | with_reducible rfl)
          simp only [List.setIfInBounds_toArray, List.set_cons_zero, List.set_cons_succ]
          refine takeH 14 17 (v := ?_) rfl rfl (by kernel_rfl) (by kernel_rfl) (by kernel_rfl) (fun _ _ _ h => h) (by rfl) ?_ (by assumption) ?_
          rotate_left
          · (intro w hSw; go_simp; first | done | with_reducible rfl)
          simp only [List.setIfInBounds_toArray, List.set_cons_zero, List.set_cons_succ]
          refine wpAnyH_done (by kernel_rfl) ?_ _
          clear hHeld
          go_wp2
          go_roundw
          case rel => exact ⟨j + 1, by omega, by go_num, by rw [hst.out, ba_append, ba_append, List.append_assoc], Lib.hid ((hB.out.alloc z2r _).drew)⟩
          case measure => simp [intOf]; omega
        exact AllReadyH.nil
      exact AllReadyH.nil
    · obtain rfl : j = n := by omega
      clear hlt
      have hbd := Hbd.out j (by rw [Hn.out]; omega)
      obtain ⟨ds, hds, hsd⟩ : ∃ ds, lxs ⟨(apartTo (sepAt hs n3) ts j).toArray⟩ = .ok ds ∧ SameK ds ts := by
        obtain ⟨_, ds, h1, h2⟩ := apart_ok (sepAt hs n3) ts (lx_good _ _ _ _ (Nat.le_refl _) Hx1.out) (sepAt_is hs n3) j (by rw [Hn.out]; omega)
        rw [lxo_zero] at h1
        rw [← Hn.out, List.take_length] at h2
        exact ⟨ds, lxs_of_lx _ _ (by omega) h1, h2⟩
      have Hds := Lib.hid hds
      have Hsd := Lib.hid hsd
      have HBr := Lib.hid (HB6.out.trans (hB.out.mono z6))
      have zr := HBr.out.size
      clear hds hsd
      generalize apartTo (sepAt hs n3) ts j = T at *
      go_wp2_with fail
      refine (tokens_known ⟨T.toArray⟩ ds wr (by show T.length ≤ _; omega) Hds.out (HK.out.below HBr.out hg)).mono ?_
      rintro e w7 ⟨vd, rfl, hlen, hown, hB7⟩
      have hlen4 : ds.length ≤ 1824 := Nat.le_trans hlen hbd
      have HB7 := Lib.hid (HBr.out.trans (hB7.mono zr))
      have z7 := HB7.out.size
      have hB67 := hB.out.trans (hB7.mono z2r)
      have Owna := Lib.hid (ownsRow_below Hown5.out hB67)
      have Ownb := Lib.hid (ownsRow_below Hownb3.out hB67)
      have Ownc := Lib.hid (ownsRow_below Hownc.out hB67)
      have Ownd := Lib.hid (ownsRow_base zr hown)
      clear hB7 hown hlen hB67 Hown5 Hownb3 Hownc
      have Owna' : Hid (w7.ownsRow w.heap.size 41 4 (.slice a0 j cap) ts.length (cellsOf ts)) := Lib.hid (by
        have h0 : ∀ m, ts.length = m → w7.ownsRow w.heap.size 41 4 (.slice a0 m cap) ts.length (cellsOf ts) := fun m h => by subst h; exact Owna.out
        exact h0 j Hn.out)
      obtain ⟨i0, hi, hz0, hz1, hz2⟩ := info_parts infoRTok
      have Hi := Lib.hid hi
      have Hz0 := Lib.hid hz0
      have Hz1 := Lib.hid hz1
      have Hz2 := Lib.hid hz2
      have hts' : ts.length ≤ 456 := by rw [Hn.out]; exact hlen1
      clear hi hz0 hz1 hz2 Owna
      go_wp2_with fail
      refine (ltokens_any vc vs w7 _ _ Ownc.out (by omega)).mono ?_
      rintro e w8 ⟨v88, rfl, own88, hB8⟩
      have HB8 := Lib.hid (HB7.out.trans (hB8.mono z7))
      have z8 := HB8.out.size
      have Owna8 := Lib.hid (ownsRow_below Owna'.out hB8)
      have Ownb8 := Lib.hid (ownsRow_below Ownb.out hB8)
      have Ownd8 := Lib.hid (ownsRow_below Ownd.out hB8)
      have Own88 := Lib.hid (ownsRow_base z7 own88)
      clear own88 hB8 Owna' Ownb Ownc Ownd
      go_wp2_with fail
      refine (ltokens_any _ ts w8 _ _ Owna8.out (by omega)).mono ?_
      rintro e w9 ⟨v90, rfl, own90, hB9⟩
      have HB9 := Lib.hid (HB8.out.trans (hB9.mono z8))
      have z9 := HB9.out.size
      have zz9 := hB9.size
      have Owna9 := Lib.hid (ownsRow_below Owna8.out hB9)
      have Ownb9 := Lib.hid (ownsRow_below Ownb8.out hB9)
      have Ownd9 := Lib.hid (ownsRow_below Ownd8.out hB9)
      have Own889 := Lib.hid (ownsRow_below Own88.out hB9)
      have Own90 := Lib.hid own90
      have na := Lib.hid (ownsRow_apart Owna8.out (Nat.le_refl _) own90)
      have nd := Lib.hid (ownsRow_apart Ownd8.out (Nat.le_refl _) own90)
      have n88 := Lib.hid (ownsRow_apart Own88.out (Nat.le_refl _) own90)
      clear own90 hB9 Owna8 Ownb8 Ownd8 Own88
      go_wp2_with fail
      refine (ltokens_any vb us w9 _ _ Ownb9.out (by omega)).mono ?_
      rintro e w10 ⟨v92, rfl, own92, hB10⟩
      have HB10 := Lib.hid (HB9.out.trans (hB10.mono z9))
      have z10 := HB10.out.size
      have zz10 := hB10.size
      have Owna10 := Lib.hid (ownsRow_below Owna9.out hB10)
      have Ownd10 := Lib.hid (ownsRow_below Ownd9.out hB10)
      have Own8810 := Lib.hid (ownsRow_below Own889.out hB10)
      have Own9010 := Lib.hid (ownsRow_below Own90.out hB10)
      have Own92 := Lib.hid own92
      clear own92 hB10 Owna9 Ownb9 Ownd9 Own889 Own90
      go_wp2_with (at_builtin; refine wpList_append_rows rfl _ _ 45 rfl w8.heap.size 58 i0 _ 4 40 Tryd.underlying45 Hi.out Hz0.out Hz1.out Hz2.out rfl (by decide) v90 ts.length (cellsOf ts) rfl Own9010.out _ _ v92 us.length (cellsOf us) rfl Own92.out (oneCell_cellsOf us) (by unfold maxLen; omega) (by omega) (by omega) ?_; intro v93 w11 own93 hgrow)
      have Own93 : Hid (w11.ownsRow w8.heap.size 58 4 v93 (ts ++ us).length (cellsOf (ts ++ us))) := Lib.hid (by
        have hc : cellsOf (ts ++ us) = cellsOf ts ++ cellsOf us := by simp [cellsOf]
        rw [List.length_append, hc]; exact own93)
      have HB11 := Lib.hid (HB10.out.grown hgrow z10 (fun r e => by have := (Own9010.out.lt r e).1; omega))
      have z11 := HB11.out.size
      have Owna11 := Lib.hid (Owna10.out.kept hgrow na.out)
      have Ownd11 := Lib.hid (Ownd10.out.kept hgrow nd.out)
      have Own8811 := Lib.hid (Own8810.out.kept hgrow n88.out)
      clear own93 hgrow Owna10 Ownd10 Own8810 Own9010 Own92 na nd n88
      go_wp2_with fail
      refine (same_any false v88 v93 vs (ts ++ us) w11 (TokAt.of_owns Own8811.out) (TokAt.of_owns Own93.out) (by omega) (SameToks.of_sameK Hsame.out)).mono ?_
      rintro e w12' ⟨rfl, d, hw12⟩
      have hB12 : Below w11.heap.size w11 w12' := by rw [hw12]; exact below_drewN (Below.refl _ _) d
      have HB12 := Lib.hid (HB11.out.trans (hB12.mono z11))
      have z12 := HB12.out.size
      have Owna12 := Lib.hid (ownsRow_below Owna11.out hB12)
      have Ownd12 := Lib.hid (ownsRow_below Ownd11.out hB12)
      clear hw12 hB12 Owna11 Ownd11 Own8811 Own93
      go_wp2_with fail
      refine (ltokens_any vd ds w12' _ _ Ownd12.out (by omega)).mono ?_
      rintro e w13 ⟨v97, rfl, own97, hB13⟩
      have HB13 := Lib.hid (HB12.out.trans (hB13.mono z12))
      have z13 := HB13.out.size
      have Owna13 := Lib.hid (ownsRow_below Owna12.out hB13)
      have Own97 := Lib.hid (ownsRow_base z12 own97)
      clear own97 hB13 Owna12 Ownd12
      go_wp2_with fail
      refine (ltokens_any _ ts w13 _ _ Owna13.out (by omega)).mono ?_
      rintro e w14 ⟨v99, rfl, own99, hB14⟩
      have HB14 := Lib.hid (HB13.out.trans (hB14.mono z13))
      have z14 := HB14.out.size
      have Own9714 := Lib.hid (ownsRow_below Own97.out hB14)
      have Own99 := Lib.hid own99
      clear own99 hB14 Owna13 Own97
      go_wp2_with fail
      refine (same_any false v97 v99 ds ts w14 (TokAt.of_owns Own9714.out) (TokAt.of_owns Own99.out) (by omega) (SameToks.of_sameK Hsd.out)).mono ?_
      rintro e w15 ⟨rfl, d', hw15⟩
      have hB15 : Below w14.heap.size w14 w15 := by rw [hw15]; exact below_drewN (Below.refl _ _) d'
      have HB15 := Lib.hid (HB14.out.trans (hB15.mono z14))
      have z15 := HB15.out.size
      clear hw15 hB15 Own9714 Own99
      go_wp2_with fail
      refine (lives_any w15 (HK.out.below HB15.out hg)).mono ?_
      rintro e w16 ⟨rfl, hB16⟩
      have HB16 := Lib.hid (HB15.out.trans (hB16.mono z15))
      clear hB16
      go_wp2
      go_ret
      exact ⟨rfl, HB16.out⟩

theorem lexerApart_row (v1 : Value) (zs : List Int) (n1 : Nat) (v2 : Value) (ys : List Int) (n2 : Nat) (v3 : Value) (hs : List Int) (n3 : Nat) (w : World) (hl1 : IntsAt w v1 zs n1) (hl2 : IntsAt w v2 ys n2) (hl3 : IntsAt w v3 hs n3) (hK : Kinds w) :
    Calls Tryd.prog 8 #[v1, v2, v3] w fun e w' => e = .returned (.bool true) ∧ Below w.heap.size w w' :=
  lexerApart_any v1 v2 v3 zs ys hs n1 n2 n3 w hl1 hl2 hl3 hK

end Go.Proofs.YtndlecddgihihaaDoor
