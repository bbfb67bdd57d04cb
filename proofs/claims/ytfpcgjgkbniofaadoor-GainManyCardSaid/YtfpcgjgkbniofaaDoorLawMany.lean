/- the law GainMany: its walk. -/
import Derived.Test.YtfpcgjgkbniofaaDoorGMany
import Derived.Test.YtfpcgjgkbniofaaDoorGLives
set_option linter.unusedVariables false
set_option linter.unusedSimpArgs false
namespace Go.Proofs.YtfpcgjgkbniofaaDoor
open Go.RowKit
attribute [local go_sem] Oper.semAt_some

theorem dec_len18 (i : Nat) (h : i < 18) : (dec i).length ≤ 2 := by
  have : i = 0 ∨ i = 1 ∨ i = 2 ∨ i = 3 ∨ i = 4 ∨ i = 5 ∨ i = 6 ∨ i = 7 ∨ i = 8 ∨ i = 9 ∨ i = 10 ∨ i = 11 ∨ i = 12 ∨ i = 13 ∨ i = 14 ∨ i = 15 ∨ i = 16 ∨ i = 17 := by omega
  rcases this with rfl | rfl | rfl | rfl | rfl | rfl | rfl | rfl | rfl | rfl | rfl | rfl | rfl | rfl | rfl | rfl | rfl | rfl <;> decide
theorem many_snoc (n : Nat) : (List.range n).map manyR ++ [manyR n] = (List.range (n + 1)).map manyR := by rw [List.range_succ, List.map_append]; rfl
theorem more_snoc (n k : Nat) : manyL n k ++ [moreR k] = manyL n (k + 1) := by unfold manyL; rw [List.range_succ, List.map_append, List.append_assoc]; rfl

set_option maxRecDepth 100000 in
set_option maxHeartbeats 8000000 in
theorem gainMany_any (many more : Int) (w : World) (hm1 : -9223372036854775808 ≤ many) (hm2 : many ≤ 9223372036854775807) (hk1 : -9223372036854775808 ≤ more) (hk2 : more ≤ 9223372036854775807) (hK : Kinds w) :
    Calls Tryd.prog 3 #[.int .i64 many, .int .i64 more] w fun e w' => e = .returned (.bool true) ∧ Below w.heap.size w w' := by
  have HK := Lib.hid hK
  have ha := around_range many 5 (by omega)
  have hb := around_range more 4 (by omega)
  have HAR := Lib.hid (fun W => around_any many 5 W hm1 hm2 (by omega) (by omega))
  have HAM := Lib.hid (fun W => around_any more 4 W hk1 hk2 (by omega) (by omega))
  obtain ⟨a, haa⟩ : ∃ a : Nat, around many 5 = (a : Int) := ⟨(around many 5).toNat, by omega⟩
  obtain ⟨b, hbb⟩ : ∃ b : Nat, around more 4 = (b : Int) := ⟨(around more 4).toNat, by omega⟩
  rw [haa] at ha HAR
  rw [hbb] at hb HAM
  clear hK haa hbb hm1 hm2 hk1 hk2
  have hw0 : IntKind.i64.wrap (14 + (a : Int)) = ((14 + a : Nat) : Int) := by rw [IntWalk.i64_in _ (by omega)]; omega
  go_enter Tryd.func3, Tryd.ntmps3
  go_wp2_with fail
  obtain ⟨w1, hw1⟩ : ∃ W, (w.alloc (.cells #[.string ⟨#[111, 114, 101]⟩, .bool false, .bool false, .bool false, .int .i64 0, .int .i64 0, .int .i64 0] 23)).alloc (.cells #[.slice (some ⟨w.heap.size, 0, none⟩) 1 1, .slice none 0 0, .slice none 0 0, .slice none 0 0] 29) = W := ⟨_, rfl⟩
  have HM : Hid (MI w w1 [] (.slice none 0 0)) := Lib.hid (by
    have hk : BlkC w1 w.heap.size 23 (itmC oreT) := by rw [← hw1]; exact (BlkC.new w 23 (itmC oreT)).alloc _
    refine ⟨by rw [← hw1]; exact ((Below.refl _ _).alloc (Nat.le_refl _) _).alloc (by simp) _, ?_, ?_, ⟨[], rfl, by simp, World.ownsRow_nil _ _ _ _, fun j hj => by simp at hj⟩, fun _ => rfl⟩
    · rw [← hw1]
      have h9 := BlkC.new (w.alloc (.cells #[.string ⟨#[111, 114, 101]⟩, .bool false, .bool false, .bool false, .int .i64 0, .int .i64 0, .int .i64 0] 23)) 29 [.slice (some ⟨w.heap.size, 0, none⟩) 1 1, .slice none 0 0, .slice none 0 0, .slice none 0 0]
      simpa using h9
    · exact slice_of_blk (css := [itmC oreT]) (xs := [oreT]) (cap := 1) (by simpa using hk) (by simp [itmC]) rfl (fun j h1 h2 => by simp) (by simp) (by omega))
  rw [hw1]
  clear hw1
  refine (HAR.out w1).mono ?_
  rintro e w' ⟨rfl, rfl⟩
  go_wp2_with fail
  obtain ⟨n, hn⟩ : ∃ n, 14 + a = n := ⟨_, rfl⟩
  have hnI : (14 : Int) + (a : Int) = (n : Int) := by omega
  rw [hnI]
  have hn18 : n ≤ 18 := by omega
  clear hw0 hnI
  go_loopw [7] (fun i wr => ∃ (j : Nat) (ar : Option Addr) (cr : Nat), j ≤ n ∧ cr ≤ 9223372036854775807 ∧ i = .int .i64 j ∧ True ∧ Hid (MI w wr ((List.range j).map manyR) (.slice ar j cr))) (fun i _ => n - (intOf i).toNat)
  case atStart => exact ⟨0, none, 0, by omega, by omega, rfl, trivial, HM⟩
  case round =>
    clear HM
    obtain ⟨j, ar, cr, hj, hcr, rfl, -, HM⟩ := hrel
    have HLN : Hid (((List.range j).map manyR).length = j) := Lib.hid (by simp)
    by_cases hlt : j < n
    · have hq : decide ((j : Int) < (n : Int)) = true := decide_eq_true (by omega)
      have hnm : (⟨#[114]⟩ : ByteArray) ++ ⟨(dec j).toArray⟩ = ⟨([114] ++ dec j).toArray⟩ := ba_app [114] (dec j)
      have hdl := dec_len18 j (by omega)
      have hcl' : ¬ (9223372036854775807 < 1 + (dec j).length) := by omega
      go_wp2_with fail
      obtain ⟨wd, hwd⟩ : ∃ X, wr.drew = X := ⟨_, rfl⟩
      have hB : Below wr.heap.size wr wd := by rw [← hwd]; exact (Below.refl _ _).drew
      replace HM := Lib.hid (HM.out.below hB)
      refine startK 13 (fun W => W.cell? ⟨w.heap.size + 1, 1, none⟩ = some (.slice ar j cr)) (by kernel_rfl) (by rw [hwd]; exact HM.out.x.cell 1) (fun hHeld => ?_)
      rw [hwd] at hHeld ⊢
      clear hwd hB
      refine takeK 0 26 (v := ?_) rfl rfl (by kernel_rfl) (by kernel_rfl) (by kernel_rfl) (by kernel_rfl) (fun _ _ _ h => h) (by rfl) ?_ (by assumption) ?_
      rotate_left
      · (intro w hSw; go_simp; first | done | with_reducible rfl)
      simp only [List.setIfInBounds_toArray, List.set_cons_zero, List.set_cons_succ]
      refine takeK 1 27 (v := ?_) rfl rfl (by kernel_rfl) (by kernel_rfl) (by kernel_rfl) (by kernel_rfl) (fun _ _ _ h => h) (by rfl) ?_ (by assumption) ?_
      rotate_left
      · (intro w hSw; go_simp; first | done | with_reducible rfl)
      simp only [List.setIfInBounds_toArray, List.set_cons_zero, List.set_cons_succ]
      refine takeK 2 28 (v := ?_) rfl rfl (by kernel_rfl) (by kernel_rfl) (by kernel_rfl) (by kernel_rfl) (fun _ _ _ h => h) (by rfl) ?_ (by assumption) ?_
      rotate_left
      · (intro w hSw; go_simp; first | done | with_reducible rfl)
      simp only [List.setIfInBounds_toArray, List.set_cons_zero, List.set_cons_succ]
      refine takeK 5 31 (v := ?_) rfl rfl (by kernel_rfl) (by kernel_rfl) (by kernel_rfl) (by kernel_rfl) (fun _ _ _ h => h) (by rfl) ?_ (by assumption) ?_
      rotate_left
      · (intro w hSw; go_simp; first | done | with_reducible rfl)
      simp only [List.setIfInBounds_toArray, List.set_cons_zero, List.set_cons_succ]
      refine takeK 7 33 (v := ?_) rfl rfl (by kernel_rfl) (by kernel_rfl) (by kernel_rfl) (by kernel_rfl) (fun _ _ _ h => h) (by rfl) ?_ (by assumption) ?_
      rotate_left
      · (intro w hSw; go_simp; first | done | with_reducible rfl)
      simp only [List.setIfInBounds_toArray, List.set_cons_zero, List.set_cons_succ]
      refine forkK [3, 6, 8] (by kernel_rfl) (by simp) ⟨forkOne 3 rfl (fun K hK => ?_), forkOne 6 rfl (fun K hK => ?_), forkOne 8 rfl (fun K hK => ?_), trivial⟩
      · skip
        go_simp
        refine (decimal_nat j _ (by omega)).mono ?_
        rintro e w' ⟨rfl, hw'⟩
        rw [hw']
        simp only [sv]
        clear hHeld hw'
        go_wp2_with fail
        refine hK.out _ _ (HM.out.x.cell 1) (fun hHeld => ?_)
        clear hK K
        try simp only [Act.put, List.setIfInBounds_toArray, List.set_cons_zero, List.set_cons_succ]
        refine takeK 4 30 (v := ?_) rfl rfl (by kernel_rfl) (by kernel_rfl) (by kernel_rfl) (by kernel_rfl) (fun _ _ _ h => h) (by rfl) ?_ (by assumption) ?_
        rotate_left
        · (intro w hSw; go_simp; first | done | with_reducible rfl)
        simp only [List.setIfInBounds_toArray, List.set_cons_zero, List.set_cons_succ]
        refine forkK [6, 8] (by kernel_rfl) (by simp) ⟨forkOne 6 rfl (fun K hK => ?_), forkOne 8 rfl (fun K hK => ?_), trivial⟩
        · skip
          go_simp
          obtain ⟨wa1, hw2⟩ : ∃ X, wd.alloc (.cells #[.int .i64 0, .int .i64 2] 33) = X := ⟨_, rfl⟩
          have hB : Below wd.heap.size wd wa1 := by rw [← hw2]; exact (Below.refl _ _).alloc (Nat.le_refl _) _
          obtain ⟨ga2, hG⟩ : ∃ g, wd.heap.size = g := ⟨_, rfl⟩
          have Ha2 : Hid (BlkC wa1 ga2 33 [.int .i64 0, .int .i64 2]) := Lib.hid (by rw [← hw2, ← hG]; exact BlkC.new _ _ _)
          replace HM := Lib.hid (HM.out.below hB)
          rw [hw2, hG]
          clear hB hw2 hG hHeld
          go_wp2_with fail
          refine hK.out _ _ (HM.out.x.cell 1) (fun hHeld => ?_)
          clear hK K
          try simp only [Act.put, List.setIfInBounds_toArray, List.set_cons_zero, List.set_cons_succ]
          refine stepK 8 (by kernel_rfl) rfl (fun K hK => ?_)
          go_simp
          obtain ⟨wa2, hw2⟩ : ∃ X, wa1.alloc (.cells #[.int .i64 0, .int .i64 1] 33) = X := ⟨_, rfl⟩
          have hB : Below wa1.heap.size wa1 wa2 := by rw [← hw2]; exact (Below.refl _ _).alloc (Nat.le_refl _) _
          obtain ⟨ga1, hG⟩ : ∃ g, wa1.heap.size = g := ⟨_, rfl⟩
          have Ha1 : Hid (BlkC wa2 ga1 33 [.int .i64 0, .int .i64 1]) := Lib.hid (by rw [← hw2, ← hG]; exact BlkC.new _ _ _)
          replace HM := Lib.hid (HM.out.below hB)
          rw [hw2, hG]
          replace Ha2 := Lib.hid (Ha2.out.below hB Ha2.out.lt)
          clear hB hw2 hG hHeld
          go_wp2_with fail
          refine hK.out _ _ (HM.out.x.cell 1) (fun hHeld => ?_)
          clear hK K
          try simp only [Act.put, List.setIfInBounds_toArray, List.set_cons_zero, List.set_cons_succ]
          refine takeK 9 35 (v := ?_) rfl rfl (by kernel_rfl) (by kernel_rfl) (by kernel_rfl) (by kernel_rfl) (fun _ _ _ h => h) (by rfl) ?_ (by assumption) ?_
          rotate_left
          · (intro w hSw; go_simp; first | done | with_reducible rfl)
          simp only [List.setIfInBounds_toArray, List.set_cons_zero, List.set_cons_succ]
          refine stepK 10 (by kernel_rfl) rfl (fun K hK => ?_)
          go_simp
          obtain ⟨wb, hw2⟩ : ∃ X, wa2.alloc (.cells #[.string ⟨(114 :: dec j).toArray⟩, .bool false, .int .i64 0, .int .i64 0, .int .i64 1, .int .i64 1, .slice (some ⟨ga2, 0, none⟩) 1 1, .slice (some ⟨ga1, 0, none⟩) 1 1, .slice none 0 0] 36) = X := ⟨_, rfl⟩
          have hB : Below wa2.heap.size wa2 wb := by rw [← hw2]; exact (Below.refl _ _).alloc (Nat.le_refl _) _
          obtain ⟨gr, hG⟩ : ∃ g, wa2.heap.size = g := ⟨_, rfl⟩
          have HRK : Hid (BlkC wb gr 36 [.string ⟨(114 :: dec j).toArray⟩, .bool false, .int .i64 0, .int .i64 0, .int .i64 1, .int .i64 1, .slice (some ⟨ga2, 0, none⟩) 1 1, .slice (some ⟨ga1, 0, none⟩) 1 1, .slice none 0 0]) := Lib.hid (by rw [← hw2, ← hG]; exact BlkC.new _ _ _)
          replace HM := Lib.hid (HM.out.below hB)
          have HRU : Hid (RulAt wb (manyR j) [.string ⟨(114 :: dec j).toArray⟩, .bool false, .int .i64 0, .int .i64 0, .int .i64 1, .int .i64 1, .slice (some ⟨ga2, 0, none⟩) 1 1, .slice (some ⟨ga1, 0, none⟩) 1 1, .slice none 0 0]) := Lib.hid ⟨_, _, _, rfl, (amts_of_blk Ha2.out).below hB, (amts_of_blk Ha1.out).below hB, SliceOf.nil _ _ (by omega)⟩
          rw [hw2, hG]
          clear hB hw2 hG hHeld
          go_wp2_with fail
          refine hK.out _ _ (HM.out.x.cell 1) (fun hHeld => ?_)
          clear hK K
          try simp only [Act.put, List.setIfInBounds_toArray, List.set_cons_zero, List.set_cons_succ]
          obtain ⟨css, hcl, hc9, hcw, hcr⟩ := HM.out.rl
          rw [HLN.out] at hcw
          have HCW := Lib.hid hcw
          have HCR := Lib.hid hcr
          have HCL := Lib.hid hcl
          have HC9 := Lib.hid hc9
          clear hcw hcr hcl hc9
          have HNW : Hid (∀ q u, ([.string ⟨(114 :: dec j).toArray⟩, .bool false, .int .i64 0, .int .i64 0, .int .i64 1, .int .i64 1, .slice (some ⟨ga2, 0, none⟩) 1 1, .slice (some ⟨ga1, 0, none⟩) 1 1, .slice none 0 0] : List Value)[q]? = some u → wb.cell? ((⟨gr, 0, none⟩ : Addr).add q) = some u) := Lib.hid (fun q u hu => by
            have hadd : (⟨gr, 0, none⟩ : Addr).add q = ⟨gr, q, none⟩ := by unfold Addr.add; split <;> simp_all
            rw [hadd, HRK.out.cell]
            exact hu)
          refine stepK 11 (by kernel_rfl) rfl (fun K hK => ?_)
          refine step_appC (W0 := wb) (B := w.heap.size + 2) elemRule rfl 37 rfl _ _ rfl (.slice ar j cr) j css.flatten rfl ⟨gr, 0, none⟩ 1 1 [.string ⟨(114 :: dec j).toArray⟩, .bool false, .int .i64 0, .int .i64 0, .int .i64 1, .int .i64 1, .slice (some ⟨ga2, 0, none⟩) 1 1, .slice (some ⟨ga1, 0, none⟩) 1 1, .slice none 0 0] rfl (by simp) HNW.out (by simp [Value.oneCell']) (by omega) HCW.out (Below.refl _ _) HM.out.sz (by omega) (by omega) ?_
          intro g7 cap7 w7 Hown7 HB7 HO7 hcap7 hcap8
          clear hHeld
          simp only [List.setIfInBounds_toArray, List.set_cons_zero, List.set_cons_succ]
          have x7 : BlkC w7 (w.heap.size + 1) 29 _ := HM.out.x.only HO7.out (fun hs => by have := (HM.out.row _ hs).1; omega)
          have x7f := x7.frozen 1
          have x7c := x7.cell 1
          simp only [List.getElem?_cons_succ, List.getElem?_cons_zero] at x7c
          go_wp2_with fail
          refine hK.out _ _ (x7c) (fun hHeld => ?_)
          clear hK K
          try simp only [Act.put, List.setIfInBounds_toArray, List.set_cons_zero, List.set_cons_succ]
          refine takeK 12 38 (v := ?_) rfl rfl (by kernel_rfl) (by kernel_rfl) (by kernel_rfl) (by kernel_rfl) (fun _ _ _ h => h) (by rfl) ?_ (by assumption) ?_
          rotate_left
          · (intro w hSw; go_simp; first | done | with_reducible rfl)
          simp only [List.setIfInBounds_toArray, List.set_cons_zero, List.set_cons_succ]
          have HG8 : Hid (MI w (w7.setCell ⟨w.heap.size + 1, 1, none⟩ (.slice (some ⟨g7, 0, none⟩) (j + 1) cap7)) ((List.range (j + 1)).map manyR) (.slice (some ⟨g7, 0, none⟩) (j + 1) cap7)) := Lib.hid (by
            have h9 := HM.out.grow (g := g7) (cap := cap7) HCL.out HC9.out HCR.out HRU.out rfl HO7.out (by rw [HLN.out]; exact Hown7.out)
            rw [HLN.out, many_snoc] at h9
            exact h9)
          refine lastK (by kernel_rfl) rfl (by kernel_rfl) (fun K hK => ?_)
          go_simp
          refine hK.out _ _ ?_
          clear hK K
          try simp only [Act.put, List.setIfInBounds_toArray, List.set_cons_zero, List.set_cons_succ]
          clear hHeld x7f x7c x7 Hown7 HB7 HO7 HM HCW HCR HCL HC9 HRU HRK HNW
          go_wp2_with fail
          go_roundw
          case rel => exact ⟨j + 1, _, _, by omega, hcap7, by go_num, trivial, HG8⟩
          case measure => simp [intOf]; omega
        · skip
          go_simp
          obtain ⟨wa1, hw2⟩ : ∃ X, wd.alloc (.cells #[.int .i64 0, .int .i64 1] 33) = X := ⟨_, rfl⟩
          have hB : Below wd.heap.size wd wa1 := by rw [← hw2]; exact (Below.refl _ _).alloc (Nat.le_refl _) _
          obtain ⟨ga1, hG⟩ : ∃ g, wd.heap.size = g := ⟨_, rfl⟩
          have Ha1 : Hid (BlkC wa1 ga1 33 [.int .i64 0, .int .i64 1]) := Lib.hid (by rw [← hw2, ← hG]; exact BlkC.new _ _ _)
          replace HM := Lib.hid (HM.out.below hB)
          rw [hw2, hG]
          clear hB hw2 hG hHeld
          go_wp2_with fail
          refine hK.out _ _ (HM.out.x.cell 1) (fun hHeld => ?_)
          clear hK K
          try simp only [Act.put, List.setIfInBounds_toArray, List.set_cons_zero, List.set_cons_succ]
          refine stepK 6 (by kernel_rfl) rfl (fun K hK => ?_)
          go_simp
          obtain ⟨wa2, hw2⟩ : ∃ X, wa1.alloc (.cells #[.int .i64 0, .int .i64 2] 33) = X := ⟨_, rfl⟩
          have hB : Below wa1.heap.size wa1 wa2 := by rw [← hw2]; exact (Below.refl _ _).alloc (Nat.le_refl _) _
          obtain ⟨ga2, hG⟩ : ∃ g, wa1.heap.size = g := ⟨_, rfl⟩
          have Ha2 : Hid (BlkC wa2 ga2 33 [.int .i64 0, .int .i64 2]) := Lib.hid (by rw [← hw2, ← hG]; exact BlkC.new _ _ _)
          replace HM := Lib.hid (HM.out.below hB)
          rw [hw2, hG]
          replace Ha1 := Lib.hid (Ha1.out.below hB Ha1.out.lt)
          clear hB hw2 hG hHeld
          go_wp2_with fail
          refine hK.out _ _ (HM.out.x.cell 1) (fun hHeld => ?_)
          clear hK K
          try simp only [Act.put, List.setIfInBounds_toArray, List.set_cons_zero, List.set_cons_succ]
          refine takeK 9 35 (v := ?_) rfl rfl (by kernel_rfl) (by kernel_rfl) (by kernel_rfl) (by kernel_rfl) (fun _ _ _ h => h) (by rfl) ?_ (by assumption) ?_
          rotate_left
          · (intro w hSw; go_simp; first | done | with_reducible rfl)
          simp only [List.setIfInBounds_toArray, List.set_cons_zero, List.set_cons_succ]
          refine stepK 10 (by kernel_rfl) rfl (fun K hK => ?_)
          go_simp
          obtain ⟨wb, hw2⟩ : ∃ X, wa2.alloc (.cells #[.string ⟨(114 :: dec j).toArray⟩, .bool false, .int .i64 0, .int .i64 0, .int .i64 1, .int .i64 1, .slice (some ⟨ga2, 0, none⟩) 1 1, .slice (some ⟨ga1, 0, none⟩) 1 1, .slice none 0 0] 36) = X := ⟨_, rfl⟩
          have hB : Below wa2.heap.size wa2 wb := by rw [← hw2]; exact (Below.refl _ _).alloc (Nat.le_refl _) _
          obtain ⟨gr, hG⟩ : ∃ g, wa2.heap.size = g := ⟨_, rfl⟩
          have HRK : Hid (BlkC wb gr 36 [.string ⟨(114 :: dec j).toArray⟩, .bool false, .int .i64 0, .int .i64 0, .int .i64 1, .int .i64 1, .slice (some ⟨ga2, 0, none⟩) 1 1, .slice (some ⟨ga1, 0, none⟩) 1 1, .slice none 0 0]) := Lib.hid (by rw [← hw2, ← hG]; exact BlkC.new _ _ _)
          replace HM := Lib.hid (HM.out.below hB)
          have HRU : Hid (RulAt wb (manyR j) [.string ⟨(114 :: dec j).toArray⟩, .bool false, .int .i64 0, .int .i64 0, .int .i64 1, .int .i64 1, .slice (some ⟨ga2, 0, none⟩) 1 1, .slice (some ⟨ga1, 0, none⟩) 1 1, .slice none 0 0]) := Lib.hid ⟨_, _, _, rfl, (amts_of_blk Ha2.out).below hB, (amts_of_blk Ha1.out).below hB, SliceOf.nil _ _ (by omega)⟩
          rw [hw2, hG]
          clear hB hw2 hG hHeld
          go_wp2_with fail
          refine hK.out _ _ (HM.out.x.cell 1) (fun hHeld => ?_)
          clear hK K
          try simp only [Act.put, List.setIfInBounds_toArray, List.set_cons_zero, List.set_cons_succ]
          obtain ⟨css, hcl, hc9, hcw, hcr⟩ := HM.out.rl
          rw [HLN.out] at hcw
          have HCW := Lib.hid hcw
          have HCR := Lib.hid hcr
          have HCL := Lib.hid hcl
          have HC9 := Lib.hid hc9
          clear hcw hcr hcl hc9
          have HNW : Hid (∀ q u, ([.string ⟨(114 :: dec j).toArray⟩, .bool false, .int .i64 0, .int .i64 0, .int .i64 1, .int .i64 1, .slice (some ⟨ga2, 0, none⟩) 1 1, .slice (some ⟨ga1, 0, none⟩) 1 1, .slice none 0 0] : List Value)[q]? = some u → wb.cell? ((⟨gr, 0, none⟩ : Addr).add q) = some u) := Lib.hid (fun q u hu => by
            have hadd : (⟨gr, 0, none⟩ : Addr).add q = ⟨gr, q, none⟩ := by unfold Addr.add; split <;> simp_all
            rw [hadd, HRK.out.cell]
            exact hu)
          refine stepK 11 (by kernel_rfl) rfl (fun K hK => ?_)
          refine step_appC (W0 := wb) (B := w.heap.size + 2) elemRule rfl 37 rfl _ _ rfl (.slice ar j cr) j css.flatten rfl ⟨gr, 0, none⟩ 1 1 [.string ⟨(114 :: dec j).toArray⟩, .bool false, .int .i64 0, .int .i64 0, .int .i64 1, .int .i64 1, .slice (some ⟨ga2, 0, none⟩) 1 1, .slice (some ⟨ga1, 0, none⟩) 1 1, .slice none 0 0] rfl (by simp) HNW.out (by simp [Value.oneCell']) (by omega) HCW.out (Below.refl _ _) HM.out.sz (by omega) (by omega) ?_
          intro g7 cap7 w7 Hown7 HB7 HO7 hcap7 hcap8
          clear hHeld
          simp only [List.setIfInBounds_toArray, List.set_cons_zero, List.set_cons_succ]
          have x7 : BlkC w7 (w.heap.size + 1) 29 _ := HM.out.x.only HO7.out (fun hs => by have := (HM.out.row _ hs).1; omega)
          have x7f := x7.frozen 1
          have x7c := x7.cell 1
          simp only [List.getElem?_cons_succ, List.getElem?_cons_zero] at x7c
          go_wp2_with fail
          refine hK.out _ _ (x7c) (fun hHeld => ?_)
          clear hK K
          try simp only [Act.put, List.setIfInBounds_toArray, List.set_cons_zero, List.set_cons_succ]
          refine takeK 12 38 (v := ?_) rfl rfl (by kernel_rfl) (by kernel_rfl) (by kernel_rfl) (by kernel_rfl) (fun _ _ _ h => h) (by rfl) ?_ (by assumption) ?_
          rotate_left
          · (intro w hSw; go_simp; first | done | with_reducible rfl)
          simp only [List.setIfInBounds_toArray, List.set_cons_zero, List.set_cons_succ]
          have HG8 : Hid (MI w (w7.setCell ⟨w.heap.size + 1, 1, none⟩ (.slice (some ⟨g7, 0, none⟩) (j + 1) cap7)) ((List.range (j + 1)).map manyR) (.slice (some ⟨g7, 0, none⟩) (j + 1) cap7)) := Lib.hid (by
            have h9 := HM.out.grow (g := g7) (cap := cap7) HCL.out HC9.out HCR.out HRU.out rfl HO7.out (by rw [HLN.out]; exact Hown7.out)
            rw [HLN.out, many_snoc] at h9
            exact h9)
          refine lastK (by kernel_rfl) rfl (by kernel_rfl) (fun K hK => ?_)
          go_simp
          refine hK.out _ _ ?_
          clear hK K
          try simp only [Act.put, List.setIfInBounds_toArray, List.set_cons_zero, List.set_cons_succ]
          clear hHeld x7f x7c x7 Hown7 HB7 HO7 HM HCW HCR HCL HC9 HRU HRK HNW
          go_wp2_with fail
          go_roundw
          case rel => exact ⟨j + 1, _, _, by omega, hcap7, by go_num, trivial, HG8⟩
          case measure => simp [intOf]; omega
      · skip
        go_simp
        obtain ⟨wa1, hw2⟩ : ∃ X, wd.alloc (.cells #[.int .i64 0, .int .i64 2] 33) = X := ⟨_, rfl⟩
        have hB : Below wd.heap.size wd wa1 := by rw [← hw2]; exact (Below.refl _ _).alloc (Nat.le_refl _) _
        obtain ⟨ga2, hG⟩ : ∃ g, wd.heap.size = g := ⟨_, rfl⟩
        have Ha2 : Hid (BlkC wa1 ga2 33 [.int .i64 0, .int .i64 2]) := Lib.hid (by rw [← hw2, ← hG]; exact BlkC.new _ _ _)
        replace HM := Lib.hid (HM.out.below hB)
        rw [hw2, hG]
        clear hB hw2 hG hHeld
        go_wp2_with fail
        refine hK.out _ _ (HM.out.x.cell 1) (fun hHeld => ?_)
        clear hK K
        try simp only [Act.put, List.setIfInBounds_toArray, List.set_cons_zero, List.set_cons_succ]
        refine forkK [3, 8] (by kernel_rfl) (by simp) ⟨forkOne 3 rfl (fun K hK => ?_), forkOne 8 rfl (fun K hK => ?_), trivial⟩
        · skip
          go_simp
          refine (decimal_nat j _ (by omega)).mono ?_
          rintro e w' ⟨rfl, hw'⟩
          rw [hw']
          simp only [sv]
          clear hHeld hw'
          go_wp2_with fail
          refine hK.out _ _ (HM.out.x.cell 1) (fun hHeld => ?_)
          clear hK K
          try simp only [Act.put, List.setIfInBounds_toArray, List.set_cons_zero, List.set_cons_succ]
          refine takeK 4 30 (v := ?_) rfl rfl (by kernel_rfl) (by kernel_rfl) (by kernel_rfl) (by kernel_rfl) (fun _ _ _ h => h) (by rfl) ?_ (by assumption) ?_
          rotate_left
          · (intro w hSw; go_simp; first | done | with_reducible rfl)
          simp only [List.setIfInBounds_toArray, List.set_cons_zero, List.set_cons_succ]
          refine stepK 8 (by kernel_rfl) rfl (fun K hK => ?_)
          go_simp
          obtain ⟨wa2, hw2⟩ : ∃ X, wa1.alloc (.cells #[.int .i64 0, .int .i64 1] 33) = X := ⟨_, rfl⟩
          have hB : Below wa1.heap.size wa1 wa2 := by rw [← hw2]; exact (Below.refl _ _).alloc (Nat.le_refl _) _
          obtain ⟨ga1, hG⟩ : ∃ g, wa1.heap.size = g := ⟨_, rfl⟩
          have Ha1 : Hid (BlkC wa2 ga1 33 [.int .i64 0, .int .i64 1]) := Lib.hid (by rw [← hw2, ← hG]; exact BlkC.new _ _ _)
          replace HM := Lib.hid (HM.out.below hB)
          rw [hw2, hG]
          replace Ha2 := Lib.hid (Ha2.out.below hB Ha2.out.lt)
          clear hB hw2 hG hHeld
          go_wp2_with fail
          refine hK.out _ _ (HM.out.x.cell 1) (fun hHeld => ?_)
          clear hK K
          try simp only [Act.put, List.setIfInBounds_toArray, List.set_cons_zero, List.set_cons_succ]
          refine takeK 9 35 (v := ?_) rfl rfl (by kernel_rfl) (by kernel_rfl) (by kernel_rfl) (by kernel_rfl) (fun _ _ _ h => h) (by rfl) ?_ (by assumption) ?_
          rotate_left
          · (intro w hSw; go_simp; first | done | with_reducible rfl)
          simp only [List.setIfInBounds_toArray, List.set_cons_zero, List.set_cons_succ]
          refine stepK 10 (by kernel_rfl) rfl (fun K hK => ?_)
          go_simp
          obtain ⟨wb, hw2⟩ : ∃ X, wa2.alloc (.cells #[.string ⟨(114 :: dec j).toArray⟩, .bool false, .int .i64 0, .int .i64 0, .int .i64 1, .int .i64 1, .slice (some ⟨ga2, 0, none⟩) 1 1, .slice (some ⟨ga1, 0, none⟩) 1 1, .slice none 0 0] 36) = X := ⟨_, rfl⟩
          have hB : Below wa2.heap.size wa2 wb := by rw [← hw2]; exact (Below.refl _ _).alloc (Nat.le_refl _) _
          obtain ⟨gr, hG⟩ : ∃ g, wa2.heap.size = g := ⟨_, rfl⟩
          have HRK : Hid (BlkC wb gr 36 [.string ⟨(114 :: dec j).toArray⟩, .bool false, .int .i64 0, .int .i64 0, .int .i64 1, .int .i64 1, .slice (some ⟨ga2, 0, none⟩) 1 1, .slice (some ⟨ga1, 0, none⟩) 1 1, .slice none 0 0]) := Lib.hid (by rw [← hw2, ← hG]; exact BlkC.new _ _ _)
          replace HM := Lib.hid (HM.out.below hB)
          have HRU : Hid (RulAt wb (manyR j) [.string ⟨(114 :: dec j).toArray⟩, .bool false, .int .i64 0, .int .i64 0, .int .i64 1, .int .i64 1, .slice (some ⟨ga2, 0, none⟩) 1 1, .slice (some ⟨ga1, 0, none⟩) 1 1, .slice none 0 0]) := Lib.hid ⟨_, _, _, rfl, (amts_of_blk Ha2.out).below hB, (amts_of_blk Ha1.out).below hB, SliceOf.nil _ _ (by omega)⟩
          rw [hw2, hG]
          clear hB hw2 hG hHeld
          go_wp2_with fail
          refine hK.out _ _ (HM.out.x.cell 1) (fun hHeld => ?_)
          clear hK K
          try simp only [Act.put, List.setIfInBounds_toArray, List.set_cons_zero, List.set_cons_succ]
          obtain ⟨css, hcl, hc9, hcw, hcr⟩ := HM.out.rl
          rw [HLN.out] at hcw
          have HCW := Lib.hid hcw
          have HCR := Lib.hid hcr
          have HCL := Lib.hid hcl
          have HC9 := Lib.hid hc9
          clear hcw hcr hcl hc9
          have HNW : Hid (∀ q u, ([.string ⟨(114 :: dec j).toArray⟩, .bool false, .int .i64 0, .int .i64 0, .int .i64 1, .int .i64 1, .slice (some ⟨ga2, 0, none⟩) 1 1, .slice (some ⟨ga1, 0, none⟩) 1 1, .slice none 0 0] : List Value)[q]? = some u → wb.cell? ((⟨gr, 0, none⟩ : Addr).add q) = some u) := Lib.hid (fun q u hu => by
            have hadd : (⟨gr, 0, none⟩ : Addr).add q = ⟨gr, q, none⟩ := by unfold Addr.add; split <;> simp_all
            rw [hadd, HRK.out.cell]
            exact hu)
          refine stepK 11 (by kernel_rfl) rfl (fun K hK => ?_)
          refine step_appC (W0 := wb) (B := w.heap.size + 2) elemRule rfl 37 rfl _ _ rfl (.slice ar j cr) j css.flatten rfl ⟨gr, 0, none⟩ 1 1 [.string ⟨(114 :: dec j).toArray⟩, .bool false, .int .i64 0, .int .i64 0, .int .i64 1, .int .i64 1, .slice (some ⟨ga2, 0, none⟩) 1 1, .slice (some ⟨ga1, 0, none⟩) 1 1, .slice none 0 0] rfl (by simp) HNW.out (by simp [Value.oneCell']) (by omega) HCW.out (Below.refl _ _) HM.out.sz (by omega) (by omega) ?_
          intro g7 cap7 w7 Hown7 HB7 HO7 hcap7 hcap8
          clear hHeld
          simp only [List.setIfInBounds_toArray, List.set_cons_zero, List.set_cons_succ]
          have x7 : BlkC w7 (w.heap.size + 1) 29 _ := HM.out.x.only HO7.out (fun hs => by have := (HM.out.row _ hs).1; omega)
          have x7f := x7.frozen 1
          have x7c := x7.cell 1
          simp only [List.getElem?_cons_succ, List.getElem?_cons_zero] at x7c
          go_wp2_with fail
          refine hK.out _ _ (x7c) (fun hHeld => ?_)
          clear hK K
          try simp only [Act.put, List.setIfInBounds_toArray, List.set_cons_zero, List.set_cons_succ]
          refine takeK 12 38 (v := ?_) rfl rfl (by kernel_rfl) (by kernel_rfl) (by kernel_rfl) (by kernel_rfl) (fun _ _ _ h => h) (by rfl) ?_ (by assumption) ?_
          rotate_left
          · (intro w hSw; go_simp; first | done | with_reducible rfl)
          simp only [List.setIfInBounds_toArray, List.set_cons_zero, List.set_cons_succ]
          have HG8 : Hid (MI w (w7.setCell ⟨w.heap.size + 1, 1, none⟩ (.slice (some ⟨g7, 0, none⟩) (j + 1) cap7)) ((List.range (j + 1)).map manyR) (.slice (some ⟨g7, 0, none⟩) (j + 1) cap7)) := Lib.hid (by
            have h9 := HM.out.grow (g := g7) (cap := cap7) HCL.out HC9.out HCR.out HRU.out rfl HO7.out (by rw [HLN.out]; exact Hown7.out)
            rw [HLN.out, many_snoc] at h9
            exact h9)
          refine lastK (by kernel_rfl) rfl (by kernel_rfl) (fun K hK => ?_)
          go_simp
          refine hK.out _ _ ?_
          clear hK K
          try simp only [Act.put, List.setIfInBounds_toArray, List.set_cons_zero, List.set_cons_succ]
          clear hHeld x7f x7c x7 Hown7 HB7 HO7 HM HCW HCR HCL HC9 HRU HRK HNW
          go_wp2_with fail
          go_roundw
          case rel => exact ⟨j + 1, _, _, by omega, hcap7, by go_num, trivial, HG8⟩
          case measure => simp [intOf]; omega
        · skip
          go_simp
          obtain ⟨wa2, hw2⟩ : ∃ X, wa1.alloc (.cells #[.int .i64 0, .int .i64 1] 33) = X := ⟨_, rfl⟩
          have hB : Below wa1.heap.size wa1 wa2 := by rw [← hw2]; exact (Below.refl _ _).alloc (Nat.le_refl _) _
          obtain ⟨ga1, hG⟩ : ∃ g, wa1.heap.size = g := ⟨_, rfl⟩
          have Ha1 : Hid (BlkC wa2 ga1 33 [.int .i64 0, .int .i64 1]) := Lib.hid (by rw [← hw2, ← hG]; exact BlkC.new _ _ _)
          replace HM := Lib.hid (HM.out.below hB)
          rw [hw2, hG]
          replace Ha2 := Lib.hid (Ha2.out.below hB Ha2.out.lt)
          clear hB hw2 hG hHeld
          go_wp2_with fail
          refine hK.out _ _ (HM.out.x.cell 1) (fun hHeld => ?_)
          clear hK K
          try simp only [Act.put, List.setIfInBounds_toArray, List.set_cons_zero, List.set_cons_succ]
          refine stepK 3 (by kernel_rfl) rfl (fun K hK => ?_)
          go_simp
          refine (decimal_nat j _ (by omega)).mono ?_
          rintro e w' ⟨rfl, hw'⟩
          rw [hw']
          simp only [sv]
          clear hHeld hw'
          go_wp2_with fail
          refine hK.out _ _ (HM.out.x.cell 1) (fun hHeld => ?_)
          clear hK K
          try simp only [Act.put, List.setIfInBounds_toArray, List.set_cons_zero, List.set_cons_succ]
          refine takeK 4 30 (v := ?_) rfl rfl (by kernel_rfl) (by kernel_rfl) (by kernel_rfl) (by kernel_rfl) (fun _ _ _ h => h) (by rfl) ?_ (by assumption) ?_
          rotate_left
          · (intro w hSw; go_simp; first | done | with_reducible rfl)
          simp only [List.setIfInBounds_toArray, List.set_cons_zero, List.set_cons_succ]
          refine takeK 9 35 (v := ?_) rfl rfl (by kernel_rfl) (by kernel_rfl) (by kernel_rfl) (by kernel_rfl) (fun _ _ _ h => h) (by rfl) ?_ (by assumption) ?_
          rotate_left
          · (intro w hSw; go_simp; first | done | with_reducible rfl)
          simp only [List.setIfInBounds_toArray, List.set_cons_zero, List.set_cons_succ]
          refine stepK 10 (by kernel_rfl) rfl (fun K hK => ?_)
          go_simp
          obtain ⟨wb, hw2⟩ : ∃ X, wa2.alloc (.cells #[.string ⟨(114 :: dec j).toArray⟩, .bool false, .int .i64 0, .int .i64 0, .int .i64 1, .int .i64 1, .slice (some ⟨ga2, 0, none⟩) 1 1, .slice (some ⟨ga1, 0, none⟩) 1 1, .slice none 0 0] 36) = X := ⟨_, rfl⟩
          have hB : Below wa2.heap.size wa2 wb := by rw [← hw2]; exact (Below.refl _ _).alloc (Nat.le_refl _) _
          obtain ⟨gr, hG⟩ : ∃ g, wa2.heap.size = g := ⟨_, rfl⟩
          have HRK : Hid (BlkC wb gr 36 [.string ⟨(114 :: dec j).toArray⟩, .bool false, .int .i64 0, .int .i64 0, .int .i64 1, .int .i64 1, .slice (some ⟨ga2, 0, none⟩) 1 1, .slice (some ⟨ga1, 0, none⟩) 1 1, .slice none 0 0]) := Lib.hid (by rw [← hw2, ← hG]; exact BlkC.new _ _ _)
          replace HM := Lib.hid (HM.out.below hB)
          have HRU : Hid (RulAt wb (manyR j) [.string ⟨(114 :: dec j).toArray⟩, .bool false, .int .i64 0, .int .i64 0, .int .i64 1, .int .i64 1, .slice (some ⟨ga2, 0, none⟩) 1 1, .slice (some ⟨ga1, 0, none⟩) 1 1, .slice none 0 0]) := Lib.hid ⟨_, _, _, rfl, (amts_of_blk Ha2.out).below hB, (amts_of_blk Ha1.out).below hB, SliceOf.nil _ _ (by omega)⟩
          rw [hw2, hG]
          clear hB hw2 hG hHeld
          go_wp2_with fail
          refine hK.out _ _ (HM.out.x.cell 1) (fun hHeld => ?_)
          clear hK K
          try simp only [Act.put, List.setIfInBounds_toArray, List.set_cons_zero, List.set_cons_succ]
          obtain ⟨css, hcl, hc9, hcw, hcr⟩ := HM.out.rl
          rw [HLN.out] at hcw
          have HCW := Lib.hid hcw
          have HCR := Lib.hid hcr
          have HCL := Lib.hid hcl
          have HC9 := Lib.hid hc9
          clear hcw hcr hcl hc9
          have HNW : Hid (∀ q u, ([.string ⟨(114 :: dec j).toArray⟩, .bool false, .int .i64 0, .int .i64 0, .int .i64 1, .int .i64 1, .slice (some ⟨ga2, 0, none⟩) 1 1, .slice (some ⟨ga1, 0, none⟩) 1 1, .slice none 0 0] : List Value)[q]? = some u → wb.cell? ((⟨gr, 0, none⟩ : Addr).add q) = some u) := Lib.hid (fun q u hu => by
            have hadd : (⟨gr, 0, none⟩ : Addr).add q = ⟨gr, q, none⟩ := by unfold Addr.add; split <;> simp_all
            rw [hadd, HRK.out.cell]
            exact hu)
          refine stepK 11 (by kernel_rfl) rfl (fun K hK => ?_)
          refine step_appC (W0 := wb) (B := w.heap.size + 2) elemRule rfl 37 rfl _ _ rfl (.slice ar j cr) j css.flatten rfl ⟨gr, 0, none⟩ 1 1 [.string ⟨(114 :: dec j).toArray⟩, .bool false, .int .i64 0, .int .i64 0, .int .i64 1, .int .i64 1, .slice (some ⟨ga2, 0, none⟩) 1 1, .slice (some ⟨ga1, 0, none⟩) 1 1, .slice none 0 0] rfl (by simp) HNW.out (by simp [Value.oneCell']) (by omega) HCW.out (Below.refl _ _) HM.out.sz (by omega) (by omega) ?_
          intro g7 cap7 w7 Hown7 HB7 HO7 hcap7 hcap8
          clear hHeld
          simp only [List.setIfInBounds_toArray, List.set_cons_zero, List.set_cons_succ]
          have x7 : BlkC w7 (w.heap.size + 1) 29 _ := HM.out.x.only HO7.out (fun hs => by have := (HM.out.row _ hs).1; omega)
          have x7f := x7.frozen 1
          have x7c := x7.cell 1
          simp only [List.getElem?_cons_succ, List.getElem?_cons_zero] at x7c
          go_wp2_with fail
          refine hK.out _ _ (x7c) (fun hHeld => ?_)
          clear hK K
          try simp only [Act.put, List.setIfInBounds_toArray, List.set_cons_zero, List.set_cons_succ]
          refine takeK 12 38 (v := ?_) rfl rfl (by kernel_rfl) (by kernel_rfl) (by kernel_rfl) (by kernel_rfl) (fun _ _ _ h => h) (by rfl) ?_ (by assumption) ?_
          rotate_left
          · (intro w hSw; go_simp; first | done | with_reducible rfl)
          simp only [List.setIfInBounds_toArray, List.set_cons_zero, List.set_cons_succ]
          have HG8 : Hid (MI w (w7.setCell ⟨w.heap.size + 1, 1, none⟩ (.slice (some ⟨g7, 0, none⟩) (j + 1) cap7)) ((List.range (j + 1)).map manyR) (.slice (some ⟨g7, 0, none⟩) (j + 1) cap7)) := Lib.hid (by
            have h9 := HM.out.grow (g := g7) (cap := cap7) HCL.out HC9.out HCR.out HRU.out rfl HO7.out (by rw [HLN.out]; exact Hown7.out)
            rw [HLN.out, many_snoc] at h9
            exact h9)
          refine lastK (by kernel_rfl) rfl (by kernel_rfl) (fun K hK => ?_)
          go_simp
          refine hK.out _ _ ?_
          clear hK K
          try simp only [Act.put, List.setIfInBounds_toArray, List.set_cons_zero, List.set_cons_succ]
          clear hHeld x7f x7c x7 Hown7 HB7 HO7 HM HCW HCR HCL HC9 HRU HRK HNW
          go_wp2_with fail
          go_roundw
          case rel => exact ⟨j + 1, _, _, by omega, hcap7, by go_num, trivial, HG8⟩
          case measure => simp [intOf]; omega
      · skip
        go_simp
        obtain ⟨wa1, hw2⟩ : ∃ X, wd.alloc (.cells #[.int .i64 0, .int .i64 1] 33) = X := ⟨_, rfl⟩
        have hB : Below wd.heap.size wd wa1 := by rw [← hw2]; exact (Below.refl _ _).alloc (Nat.le_refl _) _
        obtain ⟨ga1, hG⟩ : ∃ g, wd.heap.size = g := ⟨_, rfl⟩
        have Ha1 : Hid (BlkC wa1 ga1 33 [.int .i64 0, .int .i64 1]) := Lib.hid (by rw [← hw2, ← hG]; exact BlkC.new _ _ _)
        replace HM := Lib.hid (HM.out.below hB)
        rw [hw2, hG]
        clear hB hw2 hG hHeld
        go_wp2_with fail
        refine hK.out _ _ (HM.out.x.cell 1) (fun hHeld => ?_)
        clear hK K
        try simp only [Act.put, List.setIfInBounds_toArray, List.set_cons_zero, List.set_cons_succ]
        refine forkK [3, 6] (by kernel_rfl) (by simp) ⟨forkOne 3 rfl (fun K hK => ?_), forkOne 6 rfl (fun K hK => ?_), trivial⟩
        · skip
          go_simp
          refine (decimal_nat j _ (by omega)).mono ?_
          rintro e w' ⟨rfl, hw'⟩
          rw [hw']
          simp only [sv]
          clear hHeld hw'
          go_wp2_with fail
          refine hK.out _ _ (HM.out.x.cell 1) (fun hHeld => ?_)
          clear hK K
          try simp only [Act.put, List.setIfInBounds_toArray, List.set_cons_zero, List.set_cons_succ]
          refine takeK 4 30 (v := ?_) rfl rfl (by kernel_rfl) (by kernel_rfl) (by kernel_rfl) (by kernel_rfl) (fun _ _ _ h => h) (by rfl) ?_ (by assumption) ?_
          rotate_left
          · (intro w hSw; go_simp; first | done | with_reducible rfl)
          simp only [List.setIfInBounds_toArray, List.set_cons_zero, List.set_cons_succ]
          refine stepK 6 (by kernel_rfl) rfl (fun K hK => ?_)
          go_simp
          obtain ⟨wa2, hw2⟩ : ∃ X, wa1.alloc (.cells #[.int .i64 0, .int .i64 2] 33) = X := ⟨_, rfl⟩
          have hB : Below wa1.heap.size wa1 wa2 := by rw [← hw2]; exact (Below.refl _ _).alloc (Nat.le_refl _) _
          obtain ⟨ga2, hG⟩ : ∃ g, wa1.heap.size = g := ⟨_, rfl⟩
          have Ha2 : Hid (BlkC wa2 ga2 33 [.int .i64 0, .int .i64 2]) := Lib.hid (by rw [← hw2, ← hG]; exact BlkC.new _ _ _)
          replace HM := Lib.hid (HM.out.below hB)
          rw [hw2, hG]
          replace Ha1 := Lib.hid (Ha1.out.below hB Ha1.out.lt)
          clear hB hw2 hG hHeld
          go_wp2_with fail
          refine hK.out _ _ (HM.out.x.cell 1) (fun hHeld => ?_)
          clear hK K
          try simp only [Act.put, List.setIfInBounds_toArray, List.set_cons_zero, List.set_cons_succ]
          refine takeK 9 35 (v := ?_) rfl rfl (by kernel_rfl) (by kernel_rfl) (by kernel_rfl) (by kernel_rfl) (fun _ _ _ h => h) (by rfl) ?_ (by assumption) ?_
          rotate_left
          · (intro w hSw; go_simp; first | done | with_reducible rfl)
          simp only [List.setIfInBounds_toArray, List.set_cons_zero, List.set_cons_succ]
          refine stepK 10 (by kernel_rfl) rfl (fun K hK => ?_)
          go_simp
          obtain ⟨wb, hw2⟩ : ∃ X, wa2.alloc (.cells #[.string ⟨(114 :: dec j).toArray⟩, .bool false, .int .i64 0, .int .i64 0, .int .i64 1, .int .i64 1, .slice (some ⟨ga2, 0, none⟩) 1 1, .slice (some ⟨ga1, 0, none⟩) 1 1, .slice none 0 0] 36) = X := ⟨_, rfl⟩
          have hB : Below wa2.heap.size wa2 wb := by rw [← hw2]; exact (Below.refl _ _).alloc (Nat.le_refl _) _
          obtain ⟨gr, hG⟩ : ∃ g, wa2.heap.size = g := ⟨_, rfl⟩
          have HRK : Hid (BlkC wb gr 36 [.string ⟨(114 :: dec j).toArray⟩, .bool false, .int .i64 0, .int .i64 0, .int .i64 1, .int .i64 1, .slice (some ⟨ga2, 0, none⟩) 1 1, .slice (some ⟨ga1, 0, none⟩) 1 1, .slice none 0 0]) := Lib.hid (by rw [← hw2, ← hG]; exact BlkC.new _ _ _)
          replace HM := Lib.hid (HM.out.below hB)
          have HRU : Hid (RulAt wb (manyR j) [.string ⟨(114 :: dec j).toArray⟩, .bool false, .int .i64 0, .int .i64 0, .int .i64 1, .int .i64 1, .slice (some ⟨ga2, 0, none⟩) 1 1, .slice (some ⟨ga1, 0, none⟩) 1 1, .slice none 0 0]) := Lib.hid ⟨_, _, _, rfl, (amts_of_blk Ha2.out).below hB, (amts_of_blk Ha1.out).below hB, SliceOf.nil _ _ (by omega)⟩
          rw [hw2, hG]
          clear hB hw2 hG hHeld
          go_wp2_with fail
          refine hK.out _ _ (HM.out.x.cell 1) (fun hHeld => ?_)
          clear hK K
          try simp only [Act.put, List.setIfInBounds_toArray, List.set_cons_zero, List.set_cons_succ]
          obtain ⟨css, hcl, hc9, hcw, hcr⟩ := HM.out.rl
          rw [HLN.out] at hcw
          have HCW := Lib.hid hcw
          have HCR := Lib.hid hcr
          have HCL := Lib.hid hcl
          have HC9 := Lib.hid hc9
          clear hcw hcr hcl hc9
          have HNW : Hid (∀ q u, ([.string ⟨(114 :: dec j).toArray⟩, .bool false, .int .i64 0, .int .i64 0, .int .i64 1, .int .i64 1, .slice (some ⟨ga2, 0, none⟩) 1 1, .slice (some ⟨ga1, 0, none⟩) 1 1, .slice none 0 0] : List Value)[q]? = some u → wb.cell? ((⟨gr, 0, none⟩ : Addr).add q) = some u) := Lib.hid (fun q u hu => by
            have hadd : (⟨gr, 0, none⟩ : Addr).add q = ⟨gr, q, none⟩ := by unfold Addr.add; split <;> simp_all
            rw [hadd, HRK.out.cell]
            exact hu)
          refine stepK 11 (by kernel_rfl) rfl (fun K hK => ?_)
          refine step_appC (W0 := wb) (B := w.heap.size + 2) elemRule rfl 37 rfl _ _ rfl (.slice ar j cr) j css.flatten rfl ⟨gr, 0, none⟩ 1 1 [.string ⟨(114 :: dec j).toArray⟩, .bool false, .int .i64 0, .int .i64 0, .int .i64 1, .int .i64 1, .slice (some ⟨ga2, 0, none⟩) 1 1, .slice (some ⟨ga1, 0, none⟩) 1 1, .slice none 0 0] rfl (by simp) HNW.out (by simp [Value.oneCell']) (by omega) HCW.out (Below.refl _ _) HM.out.sz (by omega) (by omega) ?_
          intro g7 cap7 w7 Hown7 HB7 HO7 hcap7 hcap8
          clear hHeld
          simp only [List.setIfInBounds_toArray, List.set_cons_zero, List.set_cons_succ]
          have x7 : BlkC w7 (w.heap.size + 1) 29 _ := HM.out.x.only HO7.out (fun hs => by have := (HM.out.row _ hs).1; omega)
          have x7f := x7.frozen 1
          have x7c := x7.cell 1
          simp only [List.getElem?_cons_succ, List.getElem?_cons_zero] at x7c
          go_wp2_with fail
          refine hK.out _ _ (x7c) (fun hHeld => ?_)
          clear hK K
          try simp only [Act.put, List.setIfInBounds_toArray, List.set_cons_zero, List.set_cons_succ]
          refine takeK 12 38 (v := ?_) rfl rfl (by kernel_rfl) (by kernel_rfl) (by kernel_rfl) (by kernel_rfl) (fun _ _ _ h => h) (by rfl) ?_ (by assumption) ?_
          rotate_left
          · (intro w hSw; go_simp; first | done | with_reducible rfl)
          simp only [List.setIfInBounds_toArray, List.set_cons_zero, List.set_cons_succ]
          have HG8 : Hid (MI w (w7.setCell ⟨w.heap.size + 1, 1, none⟩ (.slice (some ⟨g7, 0, none⟩) (j + 1) cap7)) ((List.range (j + 1)).map manyR) (.slice (some ⟨g7, 0, none⟩) (j + 1) cap7)) := Lib.hid (by
            have h9 := HM.out.grow (g := g7) (cap := cap7) HCL.out HC9.out HCR.out HRU.out rfl HO7.out (by rw [HLN.out]; exact Hown7.out)
            rw [HLN.out, many_snoc] at h9
            exact h9)
          refine lastK (by kernel_rfl) rfl (by kernel_rfl) (fun K hK => ?_)
          go_simp
          refine hK.out _ _ ?_
          clear hK K
          try simp only [Act.put, List.setIfInBounds_toArray, List.set_cons_zero, List.set_cons_succ]
          clear hHeld x7f x7c x7 Hown7 HB7 HO7 HM HCW HCR HCL HC9 HRU HRK HNW
          go_wp2_with fail
          go_roundw
          case rel => exact ⟨j + 1, _, _, by omega, hcap7, by go_num, trivial, HG8⟩
          case measure => simp [intOf]; omega
        · skip
          go_simp
          obtain ⟨wa2, hw2⟩ : ∃ X, wa1.alloc (.cells #[.int .i64 0, .int .i64 2] 33) = X := ⟨_, rfl⟩
          have hB : Below wa1.heap.size wa1 wa2 := by rw [← hw2]; exact (Below.refl _ _).alloc (Nat.le_refl _) _
          obtain ⟨ga2, hG⟩ : ∃ g, wa1.heap.size = g := ⟨_, rfl⟩
          have Ha2 : Hid (BlkC wa2 ga2 33 [.int .i64 0, .int .i64 2]) := Lib.hid (by rw [← hw2, ← hG]; exact BlkC.new _ _ _)
          replace HM := Lib.hid (HM.out.below hB)
          rw [hw2, hG]
          replace Ha1 := Lib.hid (Ha1.out.below hB Ha1.out.lt)
          clear hB hw2 hG hHeld
          go_wp2_with fail
          refine hK.out _ _ (HM.out.x.cell 1) (fun hHeld => ?_)
          clear hK K
          try simp only [Act.put, List.setIfInBounds_toArray, List.set_cons_zero, List.set_cons_succ]
          refine stepK 3 (by kernel_rfl) rfl (fun K hK => ?_)
          go_simp
          refine (decimal_nat j _ (by omega)).mono ?_
          rintro e w' ⟨rfl, hw'⟩
          rw [hw']
          simp only [sv]
          clear hHeld hw'
          go_wp2_with fail
          refine hK.out _ _ (HM.out.x.cell 1) (fun hHeld => ?_)
          clear hK K
          try simp only [Act.put, List.setIfInBounds_toArray, List.set_cons_zero, List.set_cons_succ]
          refine takeK 4 30 (v := ?_) rfl rfl (by kernel_rfl) (by kernel_rfl) (by kernel_rfl) (by kernel_rfl) (fun _ _ _ h => h) (by rfl) ?_ (by assumption) ?_
          rotate_left
          · (intro w hSw; go_simp; first | done | with_reducible rfl)
          simp only [List.setIfInBounds_toArray, List.set_cons_zero, List.set_cons_succ]
          refine takeK 9 35 (v := ?_) rfl rfl (by kernel_rfl) (by kernel_rfl) (by kernel_rfl) (by kernel_rfl) (fun _ _ _ h => h) (by rfl) ?_ (by assumption) ?_
          rotate_left
          · (intro w hSw; go_simp; first | done | with_reducible rfl)
          simp only [List.setIfInBounds_toArray, List.set_cons_zero, List.set_cons_succ]
          refine stepK 10 (by kernel_rfl) rfl (fun K hK => ?_)
          go_simp
          obtain ⟨wb, hw2⟩ : ∃ X, wa2.alloc (.cells #[.string ⟨(114 :: dec j).toArray⟩, .bool false, .int .i64 0, .int .i64 0, .int .i64 1, .int .i64 1, .slice (some ⟨ga2, 0, none⟩) 1 1, .slice (some ⟨ga1, 0, none⟩) 1 1, .slice none 0 0] 36) = X := ⟨_, rfl⟩
          have hB : Below wa2.heap.size wa2 wb := by rw [← hw2]; exact (Below.refl _ _).alloc (Nat.le_refl _) _
          obtain ⟨gr, hG⟩ : ∃ g, wa2.heap.size = g := ⟨_, rfl⟩
          have HRK : Hid (BlkC wb gr 36 [.string ⟨(114 :: dec j).toArray⟩, .bool false, .int .i64 0, .int .i64 0, .int .i64 1, .int .i64 1, .slice (some ⟨ga2, 0, none⟩) 1 1, .slice (some ⟨ga1, 0, none⟩) 1 1, .slice none 0 0]) := Lib.hid (by rw [← hw2, ← hG]; exact BlkC.new _ _ _)
          replace HM := Lib.hid (HM.out.below hB)
          have HRU : Hid (RulAt wb (manyR j) [.string ⟨(114 :: dec j).toArray⟩, .bool false, .int .i64 0, .int .i64 0, .int .i64 1, .int .i64 1, .slice (some ⟨ga2, 0, none⟩) 1 1, .slice (some ⟨ga1, 0, none⟩) 1 1, .slice none 0 0]) := Lib.hid ⟨_, _, _, rfl, (amts_of_blk Ha2.out).below hB, (amts_of_blk Ha1.out).below hB, SliceOf.nil _ _ (by omega)⟩
          rw [hw2, hG]
          clear hB hw2 hG hHeld
          go_wp2_with fail
          refine hK.out _ _ (HM.out.x.cell 1) (fun hHeld => ?_)
          clear hK K
          try simp only [Act.put, List.setIfInBounds_toArray, List.set_cons_zero, List.set_cons_succ]
          obtain ⟨css, hcl, hc9, hcw, hcr⟩ := HM.out.rl
          rw [HLN.out] at hcw
          have HCW := Lib.hid hcw
          have HCR := Lib.hid hcr
          have HCL := Lib.hid hcl
          have HC9 := Lib.hid hc9
          clear hcw hcr hcl hc9
          have HNW : Hid (∀ q u, ([.string ⟨(114 :: dec j).toArray⟩, .bool false, .int .i64 0, .int .i64 0, .int .i64 1, .int .i64 1, .slice (some ⟨ga2, 0, none⟩) 1 1, .slice (some ⟨ga1, 0, none⟩) 1 1, .slice none 0 0] : List Value)[q]? = some u → wb.cell? ((⟨gr, 0, none⟩ : Addr).add q) = some u) := Lib.hid (fun q u hu => by
            have hadd : (⟨gr, 0, none⟩ : Addr).add q = ⟨gr, q, none⟩ := by unfold Addr.add; split <;> simp_all
            rw [hadd, HRK.out.cell]
            exact hu)
          refine stepK 11 (by kernel_rfl) rfl (fun K hK => ?_)
          refine step_appC (W0 := wb) (B := w.heap.size + 2) elemRule rfl 37 rfl _ _ rfl (.slice ar j cr) j css.flatten rfl ⟨gr, 0, none⟩ 1 1 [.string ⟨(114 :: dec j).toArray⟩, .bool false, .int .i64 0, .int .i64 0, .int .i64 1, .int .i64 1, .slice (some ⟨ga2, 0, none⟩) 1 1, .slice (some ⟨ga1, 0, none⟩) 1 1, .slice none 0 0] rfl (by simp) HNW.out (by simp [Value.oneCell']) (by omega) HCW.out (Below.refl _ _) HM.out.sz (by omega) (by omega) ?_
          intro g7 cap7 w7 Hown7 HB7 HO7 hcap7 hcap8
          clear hHeld
          simp only [List.setIfInBounds_toArray, List.set_cons_zero, List.set_cons_succ]
          have x7 : BlkC w7 (w.heap.size + 1) 29 _ := HM.out.x.only HO7.out (fun hs => by have := (HM.out.row _ hs).1; omega)
          have x7f := x7.frozen 1
          have x7c := x7.cell 1
          simp only [List.getElem?_cons_succ, List.getElem?_cons_zero] at x7c
          go_wp2_with fail
          refine hK.out _ _ (x7c) (fun hHeld => ?_)
          clear hK K
          try simp only [Act.put, List.setIfInBounds_toArray, List.set_cons_zero, List.set_cons_succ]
          refine takeK 12 38 (v := ?_) rfl rfl (by kernel_rfl) (by kernel_rfl) (by kernel_rfl) (by kernel_rfl) (fun _ _ _ h => h) (by rfl) ?_ (by assumption) ?_
          rotate_left
          · (intro w hSw; go_simp; first | done | with_reducible rfl)
          simp only [List.setIfInBounds_toArray, List.set_cons_zero, List.set_cons_succ]
          have HG8 : Hid (MI w (w7.setCell ⟨w.heap.size + 1, 1, none⟩ (.slice (some ⟨g7, 0, none⟩) (j + 1) cap7)) ((List.range (j + 1)).map manyR) (.slice (some ⟨g7, 0, none⟩) (j + 1) cap7)) := Lib.hid (by
            have h9 := HM.out.grow (g := g7) (cap := cap7) HCL.out HC9.out HCR.out HRU.out rfl HO7.out (by rw [HLN.out]; exact Hown7.out)
            rw [HLN.out, many_snoc] at h9
            exact h9)
          refine lastK (by kernel_rfl) rfl (by kernel_rfl) (fun K hK => ?_)
          go_simp
          refine hK.out _ _ ?_
          clear hK K
          try simp only [Act.put, List.setIfInBounds_toArray, List.set_cons_zero, List.set_cons_succ]
          clear hHeld x7f x7c x7 Hown7 HB7 HO7 HM HCW HCR HCL HC9 HRU HRK HNW
          go_wp2_with fail
          go_roundw
          case rel => exact ⟨j + 1, _, _, by omega, hcap7, by go_num, trivial, HG8⟩
          case measure => simp [intOf]; omega
    · obtain rfl : n = j := by omega
      have hq : decide ((n : Int) < (n : Int)) = false := decide_eq_false (by omega)
      have HM0 : Hid (MI w wr (manyL n 0) (.slice ar n cr)) := Lib.hid (by have h9 := HM.out; simpa [manyL] using h9)
      clear HM HLN hj
      go_wp2_with fail
      clear hq
      go_loopw [8] (fun i wr => ∃ (j : Nat) (ar : Option Addr) (cr : Nat), j ≤ b ∧ cr ≤ 9223372036854775807 ∧ i = .int .i64 j ∧ n + j ≤ cr ∧ Hid (MI w wr (manyL n j) (.slice ar (n + j) cr))) (fun i _ => b - (intOf i).toNat)
      case atStart => exact ⟨0, ar, cr, by omega, hcr, rfl, by
        obtain ⟨css, h1, h2, h3, h4⟩ := HM0.out.rl
        rcases h3.2 with ⟨hv, _⟩ | ⟨_, _, _, hv, _, _, h5, _, _⟩
        · injection hv with _ e1 e2; omega
        · injection hv with _ e1 e2
          have hl : (manyL n 0).length = n := by simp [manyL]
          omega, HM0⟩
      case round =>
        clear HM0 hcr
        obtain ⟨j, ar, cr, hj, hcr, rfl, hcj, HM⟩ := hrel
        have HLN : Hid ((manyL n j).length = n + j) := Lib.hid (by simp [manyL])
        go_wp2_with fail
        refine (HAM.out wr).mono ?_
        rintro e w' ⟨rfl, rfl⟩
        by_cases hlt : j < b
        · have hq : decide ((j : Int) < (b : Int)) = true := decide_eq_true (by omega)
          have hnm : (⟨#[115]⟩ : ByteArray) ++ ⟨(dec j).toArray⟩ = ⟨([115] ++ dec j).toArray⟩ := ba_app [115] (dec j)
          have hdl := dec_len18 j (by omega)
          have hcl' : ¬ (9223372036854775807 < 1 + (dec j).length) := by omega
          go_wp2_with fail
          obtain ⟨wd, hwd⟩ : ∃ X, wr.drew = X := ⟨_, rfl⟩
          have hB : Below wr.heap.size wr wd := by rw [← hwd]; exact (Below.refl _ _).drew
          replace HM := Lib.hid (HM.out.below hB)
          refine startK 11 (fun W => W.cell? ⟨w.heap.size + 1, 1, none⟩ = some (.slice ar (n + j) cr)) (by kernel_rfl) (by rw [hwd]; exact HM.out.x.cell 1) (fun hHeld => ?_)
          rw [hwd] at hHeld ⊢
          clear hwd hB
          refine takeK 0 45 (v := ?_) rfl rfl (by kernel_rfl) (by kernel_rfl) (by kernel_rfl) (by kernel_rfl) (fun _ _ _ h => h) (by rfl) ?_ (by assumption) ?_
          rotate_left
          · (intro w hSw; go_simp; first | done | with_reducible rfl)
          simp only [List.setIfInBounds_toArray, List.set_cons_zero, List.set_cons_succ]
          refine takeK 1 46 (v := ?_) rfl rfl (by kernel_rfl) (by kernel_rfl) (by kernel_rfl) (by kernel_rfl) (fun _ _ _ h => h) (by rfl) ?_ (by assumption) ?_
          rotate_left
          · (intro w hSw; go_simp; first | done | with_reducible rfl)
          simp only [List.setIfInBounds_toArray, List.set_cons_zero, List.set_cons_succ]
          refine takeK 2 47 (v := ?_) rfl rfl (by kernel_rfl) (by kernel_rfl) (by kernel_rfl) (by kernel_rfl) (fun _ _ _ h => h) (by rfl) ?_ (by assumption) ?_
          rotate_left
          · (intro w hSw; go_simp; first | done | with_reducible rfl)
          simp only [List.setIfInBounds_toArray, List.set_cons_zero, List.set_cons_succ]
          refine takeK 5 50 (v := ?_) rfl rfl (by kernel_rfl) (by kernel_rfl) (by kernel_rfl) (by kernel_rfl) (fun _ _ _ h => h) (by rfl) ?_ (by assumption) ?_
          rotate_left
          · (intro w hSw; go_simp; first | done | with_reducible rfl)
          simp only [List.setIfInBounds_toArray, List.set_cons_zero, List.set_cons_succ]
          refine forkK [3, 6] (by kernel_rfl) (by simp) ⟨forkOne 3 rfl (fun K hK => ?_), forkOne 6 rfl (fun K hK => ?_), trivial⟩
          · skip
            go_simp
            refine (decimal_nat j _ (by omega)).mono ?_
            rintro e w' ⟨rfl, hw'⟩
            rw [hw']
            simp only [sv]
            clear hHeld hw'
            go_wp2_with fail
            refine hK.out _ _ (HM.out.x.cell 1) (fun hHeld => ?_)
            clear hK K
            try simp only [Act.put, List.setIfInBounds_toArray, List.set_cons_zero, List.set_cons_succ]
            refine takeK 4 49 (v := ?_) rfl rfl (by kernel_rfl) (by kernel_rfl) (by kernel_rfl) (by kernel_rfl) (fun _ _ _ h => h) (by rfl) ?_ (by assumption) ?_
            rotate_left
            · (intro w hSw; go_simp; first | done | with_reducible rfl)
            simp only [List.setIfInBounds_toArray, List.set_cons_zero, List.set_cons_succ]
            refine stepK 6 (by kernel_rfl) rfl (fun K hK => ?_)
            go_simp
            obtain ⟨wa1, hw2⟩ : ∃ X, wd.alloc (.cells #[.int .i64 0, .int .i64 1] 33) = X := ⟨_, rfl⟩
            have hB : Below wd.heap.size wd wa1 := by rw [← hw2]; exact (Below.refl _ _).alloc (Nat.le_refl _) _
            obtain ⟨ga1, hG⟩ : ∃ g, wd.heap.size = g := ⟨_, rfl⟩
            have Ha1 : Hid (BlkC wa1 ga1 33 [.int .i64 0, .int .i64 1]) := Lib.hid (by rw [← hw2, ← hG]; exact BlkC.new _ _ _)
            replace HM := Lib.hid (HM.out.below hB)
            rw [hw2, hG]
            clear hB hw2 hG hHeld
            go_wp2_with fail
            refine hK.out _ _ (HM.out.x.cell 1) (fun hHeld => ?_)
            clear hK K
            try simp only [Act.put, List.setIfInBounds_toArray, List.set_cons_zero, List.set_cons_succ]
            refine takeK 7 52 (v := ?_) rfl rfl (by kernel_rfl) (by kernel_rfl) (by kernel_rfl) (by kernel_rfl) (fun _ _ _ h => h) (by rfl) ?_ (by assumption) ?_
            rotate_left
            · (intro w hSw; go_simp; first | done | with_reducible rfl)
            simp only [List.setIfInBounds_toArray, List.set_cons_zero, List.set_cons_succ]
            refine stepK 8 (by kernel_rfl) rfl (fun K hK => ?_)
            go_simp
            obtain ⟨wb, hw2⟩ : ∃ X, wa1.alloc (.cells #[.string ⟨(115 :: dec j).toArray⟩, .bool false, .int .i64 0, .int .i64 1, .int .i64 1, .int .i64 1, .slice none 0 0, .slice (some ⟨ga1, 0, none⟩) 1 1, .slice none 0 0] 36) = X := ⟨_, rfl⟩
            have hB : Below wa1.heap.size wa1 wb := by rw [← hw2]; exact (Below.refl _ _).alloc (Nat.le_refl _) _
            obtain ⟨gr, hG⟩ : ∃ g, wa1.heap.size = g := ⟨_, rfl⟩
            have HRK : Hid (BlkC wb gr 36 [.string ⟨(115 :: dec j).toArray⟩, .bool false, .int .i64 0, .int .i64 1, .int .i64 1, .int .i64 1, .slice none 0 0, .slice (some ⟨ga1, 0, none⟩) 1 1, .slice none 0 0]) := Lib.hid (by rw [← hw2, ← hG]; exact BlkC.new _ _ _)
            replace HM := Lib.hid (HM.out.below hB)
            have HRU : Hid (RulAt wb (moreR j) [.string ⟨(115 :: dec j).toArray⟩, .bool false, .int .i64 0, .int .i64 1, .int .i64 1, .int .i64 1, .slice none 0 0, .slice (some ⟨ga1, 0, none⟩) 1 1, .slice none 0 0]) := Lib.hid ⟨_, _, _, rfl, SliceOf.nil _ _ (by omega), (amts_of_blk Ha1.out).below hB, SliceOf.nil _ _ (by omega)⟩
            rw [hw2, hG]
            clear hB hw2 hG hHeld
            go_wp2_with fail
            refine hK.out _ _ (HM.out.x.cell 1) (fun hHeld => ?_)
            clear hK K
            try simp only [Act.put, List.setIfInBounds_toArray, List.set_cons_zero, List.set_cons_succ]
            obtain ⟨css, hcl, hc9, hcw, hcr⟩ := HM.out.rl
            rw [HLN.out] at hcw
            have HCW := Lib.hid hcw
            have HCR := Lib.hid hcr
            have HCL := Lib.hid hcl
            have HC9 := Lib.hid hc9
            clear hcw hcr hcl hc9
            have HNW : Hid (∀ q u, ([.string ⟨(115 :: dec j).toArray⟩, .bool false, .int .i64 0, .int .i64 1, .int .i64 1, .int .i64 1, .slice none 0 0, .slice (some ⟨ga1, 0, none⟩) 1 1, .slice none 0 0] : List Value)[q]? = some u → wb.cell? ((⟨gr, 0, none⟩ : Addr).add q) = some u) := Lib.hid (fun q u hu => by
              have hadd : (⟨gr, 0, none⟩ : Addr).add q = ⟨gr, q, none⟩ := by unfold Addr.add; split <;> simp_all
              rw [hadd, HRK.out.cell]
              exact hu)
            refine stepK 9 (by kernel_rfl) rfl (fun K hK => ?_)
            refine step_appC (W0 := wb) (B := w.heap.size + 2) elemRule rfl 54 rfl _ _ rfl (.slice ar (n + j) cr) (n + j) css.flatten rfl ⟨gr, 0, none⟩ 1 1 [.string ⟨(115 :: dec j).toArray⟩, .bool false, .int .i64 0, .int .i64 1, .int .i64 1, .int .i64 1, .slice none 0 0, .slice (some ⟨ga1, 0, none⟩) 1 1, .slice none 0 0] rfl (by simp) HNW.out (by simp [Value.oneCell']) (by omega) HCW.out (Below.refl _ _) HM.out.sz (by omega) (by omega) ?_
            intro g7 cap7 w7 Hown7 HB7 HO7 hcap7 hcap8
            clear hHeld
            simp only [List.setIfInBounds_toArray, List.set_cons_zero, List.set_cons_succ]
            have x7 : BlkC w7 (w.heap.size + 1) 29 _ := HM.out.x.only HO7.out (fun hs => by have := (HM.out.row _ hs).1; omega)
            have x7f := x7.frozen 1
            have x7c := x7.cell 1
            simp only [List.getElem?_cons_succ, List.getElem?_cons_zero] at x7c
            go_wp2_with fail
            refine hK.out _ _ (x7c) (fun hHeld => ?_)
            clear hK K
            try simp only [Act.put, List.setIfInBounds_toArray, List.set_cons_zero, List.set_cons_succ]
            refine takeK 10 55 (v := ?_) rfl rfl (by kernel_rfl) (by kernel_rfl) (by kernel_rfl) (by kernel_rfl) (fun _ _ _ h => h) (by rfl) ?_ (by assumption) ?_
            rotate_left
            · (intro w hSw; go_simp; first | done | with_reducible rfl)
            simp only [List.setIfInBounds_toArray, List.set_cons_zero, List.set_cons_succ]
            have HG8 : Hid (MI w (w7.setCell ⟨w.heap.size + 1, 1, none⟩ (.slice (some ⟨g7, 0, none⟩) ((n + j) + 1) cap7)) (manyL n (j + 1)) (.slice (some ⟨g7, 0, none⟩) ((n + j) + 1) cap7)) := Lib.hid (by
              have h9 := HM.out.grow (g := g7) (cap := cap7) HCL.out HC9.out HCR.out HRU.out rfl HO7.out (by rw [HLN.out]; exact Hown7.out)
              rw [HLN.out, more_snoc] at h9
              exact h9)
            refine lastK (by kernel_rfl) rfl (by kernel_rfl) (fun K hK => ?_)
            go_simp
            refine hK.out _ _ ?_
            clear hK K
            try simp only [Act.put, List.setIfInBounds_toArray, List.set_cons_zero, List.set_cons_succ]
            clear hHeld x7f x7c x7 Hown7 HB7 HO7 HM HCW HCR HCL HC9 HRU HRK HNW
            go_wp2_with fail
            go_roundw
            case rel => exact ⟨j + 1, _, _, by omega, hcap7, by go_num, by omega, HG8⟩
            case measure => simp [intOf]; omega
          · skip
            go_simp
            obtain ⟨wa1, hw2⟩ : ∃ X, wd.alloc (.cells #[.int .i64 0, .int .i64 1] 33) = X := ⟨_, rfl⟩
            have hB : Below wd.heap.size wd wa1 := by rw [← hw2]; exact (Below.refl _ _).alloc (Nat.le_refl _) _
            obtain ⟨ga1, hG⟩ : ∃ g, wd.heap.size = g := ⟨_, rfl⟩
            have Ha1 : Hid (BlkC wa1 ga1 33 [.int .i64 0, .int .i64 1]) := Lib.hid (by rw [← hw2, ← hG]; exact BlkC.new _ _ _)
            replace HM := Lib.hid (HM.out.below hB)
            rw [hw2, hG]
            clear hB hw2 hG hHeld
            go_wp2_with fail
            refine hK.out _ _ (HM.out.x.cell 1) (fun hHeld => ?_)
            clear hK K
            try simp only [Act.put, List.setIfInBounds_toArray, List.set_cons_zero, List.set_cons_succ]
            refine stepK 3 (by kernel_rfl) rfl (fun K hK => ?_)
            go_simp
            refine (decimal_nat j _ (by omega)).mono ?_
            rintro e w' ⟨rfl, hw'⟩
            rw [hw']
            simp only [sv]
            clear hHeld hw'
            go_wp2_with fail
            refine hK.out _ _ (HM.out.x.cell 1) (fun hHeld => ?_)
            clear hK K
            try simp only [Act.put, List.setIfInBounds_toArray, List.set_cons_zero, List.set_cons_succ]
            refine takeK 4 49 (v := ?_) rfl rfl (by kernel_rfl) (by kernel_rfl) (by kernel_rfl) (by kernel_rfl) (fun _ _ _ h => h) (by rfl) ?_ (by assumption) ?_
            rotate_left
            · (intro w hSw; go_simp; first | done | with_reducible rfl)
            simp only [List.setIfInBounds_toArray, List.set_cons_zero, List.set_cons_succ]
            refine takeK 7 52 (v := ?_) rfl rfl (by kernel_rfl) (by kernel_rfl) (by kernel_rfl) (by kernel_rfl) (fun _ _ _ h => h) (by rfl) ?_ (by assumption) ?_
            rotate_left
            · (intro w hSw; go_simp; first | done | with_reducible rfl)
            simp only [List.setIfInBounds_toArray, List.set_cons_zero, List.set_cons_succ]
            refine stepK 8 (by kernel_rfl) rfl (fun K hK => ?_)
            go_simp
            obtain ⟨wb, hw2⟩ : ∃ X, wa1.alloc (.cells #[.string ⟨(115 :: dec j).toArray⟩, .bool false, .int .i64 0, .int .i64 1, .int .i64 1, .int .i64 1, .slice none 0 0, .slice (some ⟨ga1, 0, none⟩) 1 1, .slice none 0 0] 36) = X := ⟨_, rfl⟩
            have hB : Below wa1.heap.size wa1 wb := by rw [← hw2]; exact (Below.refl _ _).alloc (Nat.le_refl _) _
            obtain ⟨gr, hG⟩ : ∃ g, wa1.heap.size = g := ⟨_, rfl⟩
            have HRK : Hid (BlkC wb gr 36 [.string ⟨(115 :: dec j).toArray⟩, .bool false, .int .i64 0, .int .i64 1, .int .i64 1, .int .i64 1, .slice none 0 0, .slice (some ⟨ga1, 0, none⟩) 1 1, .slice none 0 0]) := Lib.hid (by rw [← hw2, ← hG]; exact BlkC.new _ _ _)
            replace HM := Lib.hid (HM.out.below hB)
            have HRU : Hid (RulAt wb (moreR j) [.string ⟨(115 :: dec j).toArray⟩, .bool false, .int .i64 0, .int .i64 1, .int .i64 1, .int .i64 1, .slice none 0 0, .slice (some ⟨ga1, 0, none⟩) 1 1, .slice none 0 0]) := Lib.hid ⟨_, _, _, rfl, SliceOf.nil _ _ (by omega), (amts_of_blk Ha1.out).below hB, SliceOf.nil _ _ (by omega)⟩
            rw [hw2, hG]
            clear hB hw2 hG hHeld
            go_wp2_with fail
            refine hK.out _ _ (HM.out.x.cell 1) (fun hHeld => ?_)
            clear hK K
            try simp only [Act.put, List.setIfInBounds_toArray, List.set_cons_zero, List.set_cons_succ]
            obtain ⟨css, hcl, hc9, hcw, hcr⟩ := HM.out.rl
            rw [HLN.out] at hcw
            have HCW := Lib.hid hcw
            have HCR := Lib.hid hcr
            have HCL := Lib.hid hcl
            have HC9 := Lib.hid hc9
            clear hcw hcr hcl hc9
            have HNW : Hid (∀ q u, ([.string ⟨(115 :: dec j).toArray⟩, .bool false, .int .i64 0, .int .i64 1, .int .i64 1, .int .i64 1, .slice none 0 0, .slice (some ⟨ga1, 0, none⟩) 1 1, .slice none 0 0] : List Value)[q]? = some u → wb.cell? ((⟨gr, 0, none⟩ : Addr).add q) = some u) := Lib.hid (fun q u hu => by
              have hadd : (⟨gr, 0, none⟩ : Addr).add q = ⟨gr, q, none⟩ := by unfold Addr.add; split <;> simp_all
              rw [hadd, HRK.out.cell]
              exact hu)
            refine stepK 9 (by kernel_rfl) rfl (fun K hK => ?_)
            refine step_appC (W0 := wb) (B := w.heap.size + 2) elemRule rfl 54 rfl _ _ rfl (.slice ar (n + j) cr) (n + j) css.flatten rfl ⟨gr, 0, none⟩ 1 1 [.string ⟨(115 :: dec j).toArray⟩, .bool false, .int .i64 0, .int .i64 1, .int .i64 1, .int .i64 1, .slice none 0 0, .slice (some ⟨ga1, 0, none⟩) 1 1, .slice none 0 0] rfl (by simp) HNW.out (by simp [Value.oneCell']) (by omega) HCW.out (Below.refl _ _) HM.out.sz (by omega) (by omega) ?_
            intro g7 cap7 w7 Hown7 HB7 HO7 hcap7 hcap8
            clear hHeld
            simp only [List.setIfInBounds_toArray, List.set_cons_zero, List.set_cons_succ]
            have x7 : BlkC w7 (w.heap.size + 1) 29 _ := HM.out.x.only HO7.out (fun hs => by have := (HM.out.row _ hs).1; omega)
            have x7f := x7.frozen 1
            have x7c := x7.cell 1
            simp only [List.getElem?_cons_succ, List.getElem?_cons_zero] at x7c
            go_wp2_with fail
            refine hK.out _ _ (x7c) (fun hHeld => ?_)
            clear hK K
            try simp only [Act.put, List.setIfInBounds_toArray, List.set_cons_zero, List.set_cons_succ]
            refine takeK 10 55 (v := ?_) rfl rfl (by kernel_rfl) (by kernel_rfl) (by kernel_rfl) (by kernel_rfl) (fun _ _ _ h => h) (by rfl) ?_ (by assumption) ?_
            rotate_left
            · (intro w hSw; go_simp; first | done | with_reducible rfl)
            simp only [List.setIfInBounds_toArray, List.set_cons_zero, List.set_cons_succ]
            have HG8 : Hid (MI w (w7.setCell ⟨w.heap.size + 1, 1, none⟩ (.slice (some ⟨g7, 0, none⟩) ((n + j) + 1) cap7)) (manyL n (j + 1)) (.slice (some ⟨g7, 0, none⟩) ((n + j) + 1) cap7)) := Lib.hid (by
              have h9 := HM.out.grow (g := g7) (cap := cap7) HCL.out HC9.out HCR.out HRU.out rfl HO7.out (by rw [HLN.out]; exact Hown7.out)
              rw [HLN.out, more_snoc] at h9
              exact h9)
            refine lastK (by kernel_rfl) rfl (by kernel_rfl) (fun K hK => ?_)
            go_simp
            refine hK.out _ _ ?_
            clear hK K
            try simp only [Act.put, List.setIfInBounds_toArray, List.set_cons_zero, List.set_cons_succ]
            clear hHeld x7f x7c x7 Hown7 HB7 HO7 HM HCW HCR HCL HC9 HRU HRK HNW
            go_wp2_with fail
            go_roundw
            case rel => exact ⟨j + 1, _, _, by omega, hcap7, by go_num, by omega, HG8⟩
            case measure => simp [intOf]; omega
        · obtain rfl : b = j := by omega
          have hq : decide ((b : Int) < (b : Int)) = false := decide_eq_false (by omega)
          have HC : Hid (CatAt wr (.slice (some ⟨w.heap.size, 0, none⟩) 1 1) (.slice ar (n + b) cr) (manyC n b)) := Lib.hid ⟨HM.out.it, by
            obtain ⟨css, h1, h2, h3, h4⟩ := HM.out.rl
            rw [HLN.out] at h3
            exact SliceOf.of_own (css := css) (base := w.heap.size + 2) (e := 36) (by rw [h1, HLN.out]; exact h3) h2 h1 (fun j hj hj' => h4 j hj' hj)⟩
          have HF := Lib.hid (many_fine (n := n) (k := b) (by omega) (by omega))
          have HB := Lib.hid HM.out.b
          have m0 := HM.out.x.cell 0
          have m1 := HM.out.x.cell 1
          have m2 := HM.out.x.cell 2
          have m3 := HM.out.x.cell 3
          have mlt := HM.out.x.lt
          simp only [List.getElem?_cons_succ, List.getElem?_cons_zero] at m0 m1 m2 m3
          have HXB := Lib.hid HM.out.x
          clear HM HLN
          go_wp2_with fail
          clear hq m0 m1 m2 m3 mlt
          by_cases h16 : n ≤ 16
          · have hql : (usL (manyC n b)).length ≤ 16 := by rw [many_us]; simpa using h16
            have q16 : decide ((16 : Int) < (n : Int)) = false := decide_eq_false (by omega)
            have q16' : decide (16 < n) = false := decide_eq_false (by omega)
            have HSC := Lib.hid (many_scan (n := n) (k := b) h16)
            refine (callsIn_wide.1 (find_main (.slice (some ⟨w.heap.size, 0, none⟩) 1 1) (.slice ar (n + b) cr) (manyC n b) 2 1000 wr HC.out HF.out (by omega) (by omega) hql (by decide) (by decide) (HK.out.keep HB.out))).mono ?_
            rintro e w6 ⟨hB, y1, y2, y3, b1, er, rfl, hfi⟩
            rw [HSC.out] at hfi
            obtain ⟨rfl, rfl, rfl, rfl, rfl⟩ := hfi
            unfold nilS
            replace HB := Lib.hid (HB.out.trans (hB.mono HB.out.size))
            replace HC := Lib.hid (HC.out.below hB)
            replace HXB := Lib.hid (HXB.out.below hB HXB.out.lt)
            clear hB
            have m0 := HXB.out.cell 0
            have m1 := HXB.out.cell 1
            have m2 := HXB.out.cell 2
            have m3 := HXB.out.cell 3
            have mlt := HXB.out.lt
            simp only [List.getElem?_cons_succ, List.getElem?_cons_zero] at m0 m1 m2 m3
            go_wp2_with fail
            obtain ⟨w7, hw7⟩ : ∃ W, w6.alloc (.cells #[.slice none 0 0, .slice none 0 0, .slice none 0 0] 39) = W := ⟨_, rfl⟩
            have hB : Below w6.heap.size w6 w7 := by rw [← hw7]; exact (Below.refl _ _).alloc (Nat.le_refl _) _
            replace HB := Lib.hid (HB.out.trans (hB.mono HB.out.size))
            replace HC := Lib.hid (HC.out.below hB)
            replace HXB := Lib.hid (HXB.out.below hB HXB.out.lt)
            rw [hw7]
            clear hw7 hB m0 m1 m2 m3 mlt
            have hrf := rfind_main (.slice (some ⟨w.heap.size, 0, none⟩) 1 1) (.slice ar (n + b) cr) (manyC n b) 2 1000 w7 HC.out HF.out (by omega) (by omega) hql (by decide) (by decide)
            refine hrf.mono ?_
            rintro e w8 ⟨hB, y1, y2, y3, b1, er, rfl, hfi⟩
            rw [HSC.out] at hfi
            obtain ⟨rfl, rfl, rfl, rfl, rfl⟩ := hfi
            unfold nilS
            replace HB := Lib.hid (HB.out.trans (hB.mono HB.out.size))
            clear hB hrf
            go_wp2_with fail
            obtain ⟨w9, hw9⟩ : ∃ W, w8.alloc (.cells #[.slice none 0 0, .slice none 0 0, .slice none 0 0] 43) = W := ⟨_, rfl⟩
            have hB : Below w8.heap.size w8 w9 := by rw [← hw9]; exact (Below.refl _ _).alloc (Nat.le_refl _) _
            replace HB := Lib.hid (HB.out.trans (hB.mono HB.out.size))
            rw [hw9]
            clear hw9 hB
            refine (lives_any _ (HK.out.keep HB.out)).mono ?_
            rintro e w10 ⟨rfl, hB⟩
            replace HB := Lib.hid (HB.out.trans (hB.mono HB.out.size))
            clear hB
            go_wp2_with fail
            go_ret
            exact ⟨rfl, HB.out⟩
          · have hql : 16 < (usL (manyC n b)).length := by rw [many_us]; simp; omega
            have q16 : decide ((16 : Int) < (n : Int)) = true := decide_eq_true (by omega)
            have q16' : decide (16 < n) = true := decide_eq_true (by omega)
            refine (callsIn_wide.1 (find_many (.slice (some ⟨w.heap.size, 0, none⟩) 1 1) (.slice ar (n + b) cr) (manyC n b) 2 1000 wr HC.out HF.out (by omega) (by omega) hql (HK.out.keep HB.out))).mono ?_
            rintro e w6 ⟨rfl, hB⟩
            replace HB := Lib.hid (HB.out.trans (hB.mono HB.out.size))
            replace HC := Lib.hid (HC.out.below hB)
            replace HXB := Lib.hid (HXB.out.below hB HXB.out.lt)
            clear hB
            have m0 := HXB.out.cell 0
            have m1 := HXB.out.cell 1
            have m2 := HXB.out.cell 2
            have m3 := HXB.out.cell 3
            have mlt := HXB.out.lt
            simp only [List.getElem?_cons_succ, List.getElem?_cons_zero] at m0 m1 m2 m3
            go_wp2_with fail
            obtain ⟨w7, hw7⟩ : ∃ W, w6.alloc (.cells #[.slice none 0 0, .slice none 0 0, .slice none 0 0] 39) = W := ⟨_, rfl⟩
            have hB : Below w6.heap.size w6 w7 := by rw [← hw7]; exact (Below.refl _ _).alloc (Nat.le_refl _) _
            replace HB := Lib.hid (HB.out.trans (hB.mono HB.out.size))
            replace HC := Lib.hid (HC.out.below hB)
            replace HXB := Lib.hid (HXB.out.below hB HXB.out.lt)
            rw [hw7]
            clear hw7 hB m0 m1 m2 m3 mlt
            refine (rfind_many (.slice (some ⟨w.heap.size, 0, none⟩) 1 1) (.slice ar (n + b) cr) (manyC n b) 2 1000 w7 HC.out HF.out (by omega) (by omega) hql).mono ?_
            rintro e w8 ⟨rfl, hB⟩
            replace HB := Lib.hid (HB.out.trans (hB.mono HB.out.size))
            clear hB
            go_wp2_with fail
            obtain ⟨w9, hw9⟩ : ∃ W, w8.alloc (.cells #[.slice none 0 0, .slice none 0 0, .slice none 0 0] 43) = W := ⟨_, rfl⟩
            have hB : Below w8.heap.size w8 w9 := by rw [← hw9]; exact (Below.refl _ _).alloc (Nat.le_refl _) _
            replace HB := Lib.hid (HB.out.trans (hB.mono HB.out.size))
            rw [hw9]
            clear hw9 hB
            refine (lives_any _ (HK.out.keep HB.out)).mono ?_
            rintro e w10 ⟨rfl, hB⟩
            replace HB := Lib.hid (HB.out.trans (hB.mono HB.out.size))
            clear hB
            go_wp2_with fail
            go_ret
            exact ⟨rfl, HB.out⟩
end Go.Proofs.YtfpcgjgkbniofaaDoor
