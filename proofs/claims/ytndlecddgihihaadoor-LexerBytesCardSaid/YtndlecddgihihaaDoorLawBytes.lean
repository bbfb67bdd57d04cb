/- The law LexerBytes: it returns true. -/
import Derived.Test.YtndlecddgihihaaDoorTexts
import Derived.Test.YtndlecddgihihaaDoorLives
namespace Go.Proofs.YtndlecddgihihaaDoor
open Go.RowKit

theorem conv_one (w : World) (g : Nat) (n : Int) (h : w.cell? ⟨g, 0, none⟩ = some (.int .u8 n)) :
    (convert 29 9 (.slice (some ⟨g, 0, none⟩) 1 1)).run Tryd.prog w = .ok (.string ⟨#[UInt8.ofNat n.toNat]⟩) w := by
  rw [run_convert_bytes_string w 29 9 5 _ _ _ Tryd.underlying29 Tryd.underlying5 Tryd.underlying9]
  have hl : (loadCells ⟨g, 0, none⟩ 1).run Tryd.prog w = .ok ([n].map (Value.int .u8)).toArray w := by
    simp [loadCells, go_sem, h]
  rw [run_bytesToString w ⟨g, 0, none⟩ 1 1 [n] hl]
  rfl

theorem three_size (A : ByteArray) (x : UInt8) (B : ByteArray) (h : A.size + B.size ≤ 1048575) : (A ++ ⟨#[x]⟩ ++ B).size ≤ 1048576 := by
  have h1 : (⟨#[x]⟩ : ByteArray).size = 1 := rfl
  rw [ByteArray.size_append, ByteArray.size_append, h1]
  omega

set_option maxHeartbeats 2000000 in
theorem lexerBytes_any (v : Value) (zs : List Int) (len : Nat) (at_ : Int) (by_ : Int) (put : Bool) (w : World) (hl : IntsAt w v zs len) (h1 : -9223372036854775808 ≤ at_) (h2 : at_ ≤ 9223372036854775807) (_hb1 : 0 ≤ by_) (_hb2 : by_ ≤ 255) (hK : Kinds w) :
    Calls Tryd.prog 4 #[v, .int .i64 at_, .int .u8 by_, .bool put] w fun e w' => e = .returned (.bool true) ∧ Below w.heap.size w w' := by
  have HK := Lib.hid hK
  have Hl := Lib.hid hl
  have hg := hK.lt
  have hc := cleanText_len zs len
  clear hK hl
  go_enter Tryd.func4, Tryd.ntmps4
  go_wp2_with fail
  refine (clean_any v zs len w Hl.out).mono ?_
  rintro e w1 ⟨rfl, hB1⟩
  have HB1 := Lib.hid hB1
  have z1 := hB1.size
  clear hB1
  have hcs : (⟨(cleanText zs len).toArray⟩ : ByteArray).size ≤ 456 := hc
  generalize (⟨(cleanText zs len).toArray⟩ : ByteArray) = c at *
  clear hc
  have hq := around_range at_ ((c.size : Int) + 1) (by omega)
  have Ha := Lib.hid (fun w => around_any at_ ((c.size : Int) + 1) w h1 h2 (by omega) (by omega))
  obtain ⟨k, hk⟩ : ∃ k : Nat, around at_ ((c.size : Int) + 1) = k := ⟨(around at_ ((c.size : Int) + 1)).toNat, by omega⟩
  rw [hk] at hq Ha
  clear hk
  have hks : k ≤ c.size := by omega
  clear hq
  go_wp2_with fail
  refine (Ha.out _).mono ?_
  rintro e w' ⟨rfl, rfl⟩
  obtain ⟨s, hs⟩ : ∃ s, c ++ (⟨#[120]⟩ : ByteArray) = s := ⟨_, rfl⟩
  have hss : s.size = c.size + 1 := by rw [← hs]; simp; rfl
  rw [hs]
  have Hss := Lib.hid hss
  have hsz : s.size ≤ 457 := by omega
  have hk1 : k + 1 ≤ s.size := by omega
  have hk2 : k ≤ s.size := by omega
  have hk3 : k < s.size := by omega
  clear hss hs
  cases put with
  | true =>
    go_wp2_with fail
    refine wp_region_held_drew (S := fun _ => True) (by kernel_rfl) trivial (fun hHeld => ?_)
    refine takeH 0 19 (v := ?_) rfl rfl (by kernel_rfl) (by kernel_rfl) (by kernel_rfl) (fun _ _ _ h => h) (by rfl) ?_ (by assumption) ?_
    rotate_left
    · (intro w hSw; go_simp; first | done | with_reducible rfl)
    simp only [List.setIfInBounds_toArray, List.set_cons_zero, List.set_cons_succ]
    refine takeH 1 20 (v := ?_) rfl rfl (by kernel_rfl) (by kernel_rfl) (by kernel_rfl) (fun _ _ _ h => h) (by rfl) ?_ (by assumption) ?_
    rotate_left
    · (intro w hSw; go_simp; first | done | with_reducible rfl)
    simp only [List.setIfInBounds_toArray, List.set_cons_zero, List.set_cons_succ]
    refine takeH 2 21 (v := ?_) rfl rfl (by kernel_rfl) (by kernel_rfl) (by kernel_rfl) (fun _ _ _ h => h) (by rfl) ?_ (by assumption) ?_
    rotate_left
    · (intro w hSw; go_simp; first | done | with_reducible rfl)
    simp only [List.setIfInBounds_toArray, List.set_cons_zero, List.set_cons_succ]
    refine takeH 3 22 (v := ?_) rfl rfl (by kernel_rfl) (by kernel_rfl) (by kernel_rfl) (fun _ _ _ h => h) (by rfl) ?_ (by assumption) ?_
    rotate_left
    · (intro w hSw; go_simp; first | done | with_reducible rfl)
    simp only [List.setIfInBounds_toArray, List.set_cons_zero, List.set_cons_succ]
    refine takeH 7 26 (v := ?_) rfl rfl (by kernel_rfl) (by kernel_rfl) (by kernel_rfl) (fun _ _ _ h => h) (by rfl) ?_ (by assumption) ?_
    rotate_left
    · (intro w hSw; go_simp; first | done | with_reducible rfl)
    simp only [List.setIfInBounds_toArray, List.set_cons_zero, List.set_cons_succ]
    refine takeH 8 27 (v := ?_) rfl rfl (by kernel_rfl) (by kernel_rfl) (by kernel_rfl) (fun _ _ _ h => h) (by rfl) ?_ (by assumption) ?_
    rotate_left
    · (intro w hSw; go_simp; first | done | with_reducible rfl)
    simp only [List.setIfInBounds_toArray, List.set_cons_zero, List.set_cons_succ]
    refine takeH 9 28 (v := ?_) rfl rfl (by kernel_rfl) (by kernel_rfl) (by kernel_rfl) (fun _ _ _ h => h) (by rfl) ?_ (by assumption) ?_
    rotate_left
    · (intro w hSw; go_simp; first | done | with_reducible rfl)
    simp only [List.setIfInBounds_toArray, List.set_cons_zero, List.set_cons_succ]
    refine wpAnyH_ready (rs := [4]) (by kernel_rfl) (by simp) ?_
    refine AllReadyH.cons (i := 4) rfl (fun K hK => ?_) AllReadyH.nil
    go_simp
    refine hK.out _ _ trivial (fun hHeld => ?_)
    clear hK K
    try simp only [Act.put, List.setIfInBounds_toArray, List.set_cons_zero, List.set_cons_succ]
    have hcv := conv_one (w1.alloc (Obj.cells #[Value.int IntKind.u8 by_] 5)).drew w1.heap.size by_ (by simp)
    refine wpAnyH_ready (rs := [5]) (by kernel_rfl) (by simp) ?_
    refine AllReadyH.cons (i := 5) rfl (fun K hK => ?_) AllReadyH.nil
    go_simp
    refine hK.out _ _ trivial (fun hHeld => ?_)
    clear hK K hcv
    try simp only [Act.put, List.setIfInBounds_toArray, List.set_cons_zero, List.set_cons_succ]
    have hc1 : ¬ (9223372036854775807 < k + 1) := by omega
    have hz1 : (s.extract 0 k).size = k := by rw [ByteArray.size_extract]; omega
    obtain ⟨A, hA⟩ : ∃ A, s.extract 0 k = A := ⟨_, rfl⟩
    rw [hA] at hz1 ⊢
    have hA1 : ¬ (9223372036854775807 < A.size + 1) := by omega
    have hA2 : A.size ≤ 457 := by omega
    clear hA hz1 hc1
    refine takeH 6 25 (v := ?_) rfl rfl (by kernel_rfl) (by kernel_rfl) (by kernel_rfl) (fun _ _ _ h => h) (by rfl) ?_ (by assumption) ?_
    rotate_left
    · (intro w hSw; go_simp; first | done | with_reducible rfl)
    simp only [List.setIfInBounds_toArray, List.set_cons_zero, List.set_cons_succ]
    have hz2 : (s.extract k s.size).size ≤ 457 := by rw [ByteArray.size_extract]; omega
    obtain ⟨B, hB⟩ : ∃ B, s.extract k s.size = B := ⟨_, rfl⟩
    rw [hB] at hz2 ⊢
    have hB1 : ¬ (9223372036854775807 < A.size + 1 + B.size) := by omega
    clear hB
    refine takeH 10 29 (v := ?_) rfl rfl (by kernel_rfl) (by kernel_rfl) (by kernel_rfl) (fun _ _ _ h => h) (by rfl) ?_ (by assumption) ?_
    rotate_left
    · (intro w hSw; go_simp; first | done | with_reducible rfl)
    simp only [List.setIfInBounds_toArray, List.set_cons_zero, List.set_cons_succ]
    have HBa := Lib.hid (HB1.out.trans (((Below.refl w1.heap.size w1).alloc (Nat.le_refl _) (.cells #[.int .u8 by_] 5)).drew.mono z1))
    have hag := Lib.hid (agrees_any (A ++ ⟨#[UInt8.ofNat by_.toNat]⟩ ++ B) _ (three_size A _ B (by omega)) (HK.out.below HBa.out hg))
    refine wpAnyH_ready (rs := [11]) (by kernel_rfl) (by simp) ?_
    refine AllReadyH.cons (i := 11) rfl (fun K hK => ?_) AllReadyH.nil
    go_simp
    refine hag.out.mono ?_
    rintro e w2 ⟨rfl, hB2⟩
    have HB2 := Lib.hid (HBa.out.trans (hB2.mono (by simp; omega)))
    have z2 := HB2.out.size
    clear hB2
    go_wp2_with fail
    refine hK.out _ _ trivial (fun hHeld => ?_)
    clear hK K
    try simp only [Act.put, List.setIfInBounds_toArray, List.set_cons_zero, List.set_cons_succ]
    refine takeH 12 31 (v := ?_) rfl rfl (by kernel_rfl) (by kernel_rfl) (by kernel_rfl) (fun _ _ _ h => h) (by rfl) ?_ (by assumption) ?_
    rotate_left
    · (intro w hSw; go_simp; first | done | with_reducible rfl)
    simp only [List.setIfInBounds_toArray, List.set_cons_zero, List.set_cons_succ]
    refine wpAnyH_ready (rs := [13]) (by kernel_rfl) (by simp) ?_
    refine AllReadyH.cons (i := 13) rfl (fun K hK => ?_) AllReadyH.nil
    go_simp
    refine (lives_any w2 (HK.out.below HB2.out hg)).mono ?_
    rintro e w6 ⟨rfl, hB6⟩
    have HB6 := Lib.hid (HB2.out.trans (hB6.mono z2))
    clear hB6
    go_wp2_with fail
    refine hK.out _ _ trivial (fun hHeld => ?_)
    clear hK K
    try simp only [Act.put, List.setIfInBounds_toArray, List.set_cons_zero, List.set_cons_succ]
    refine takeH 14 33 (v := ?_) rfl rfl (by kernel_rfl) (by kernel_rfl) (by kernel_rfl) (fun _ _ _ h => h) (by rfl) ?_ (by assumption) ?_
    rotate_left
    · (intro w hSw; go_simp; first | done | with_reducible rfl)
    simp only [List.setIfInBounds_toArray, List.set_cons_zero, List.set_cons_succ]
    refine takeH 15 8 (v := ?_) rfl rfl (by kernel_rfl) (by kernel_rfl) (by kernel_rfl) (fun _ _ _ h => h) (by rfl) ?_ (by assumption) ?_
    rotate_left
    · (intro w hSw; go_simp; first | done | with_reducible rfl)
    simp only [List.setIfInBounds_toArray, List.set_cons_zero, List.set_cons_succ]
    refine wpAnyH_done (by kernel_rfl) ?_ _
    go_wp2
    go_ret
    exact ⟨rfl, HB6.out⟩
  | false =>
    go_wp2_with fail
    refine wp_region_held_drew (S := fun _ => True) (by kernel_rfl) trivial (fun hHeld => ?_)
    have hw2 : 0 ≤ (k : Int) + 1 := by omega
    have hw3 : (k : Int) + 1 ≤ (s.size : Int) := by omega
    have hw4 : ((k : Int) + 1).toNat = k + 1 := by omega
    have hw1 : IntKind.i64.wrap ((k : Int) + 1) = (k : Int) + 1 := IntWalk.i64_in _ (by omega)
    refine takeH 0 34 (v := ?_) rfl rfl (by kernel_rfl) (by kernel_rfl) (by kernel_rfl) (fun _ _ _ h => h) (by rfl) ?_ (by assumption) ?_
    rotate_left
    · (intro w hSw; go_simp; first | done | with_reducible rfl)
    simp only [List.setIfInBounds_toArray, List.set_cons_zero, List.set_cons_succ]
    refine takeH 1 35 (v := ?_) rfl rfl (by kernel_rfl) (by kernel_rfl) (by kernel_rfl) (fun _ _ _ h => h) (by rfl) ?_ (by assumption) ?_
    rotate_left
    · (intro w hSw; go_simp; first | done | with_reducible rfl)
    simp only [List.setIfInBounds_toArray, List.set_cons_zero, List.set_cons_succ]
    refine takeH 2 36 (v := ?_) rfl rfl (by kernel_rfl) (by kernel_rfl) (by kernel_rfl) (fun _ _ _ h => h) (by rfl) ?_ (by assumption) ?_
    rotate_left
    · (intro w hSw; go_simp; first | done | with_reducible rfl)
    simp only [List.setIfInBounds_toArray, List.set_cons_zero, List.set_cons_succ]
    refine takeH 3 37 (v := ?_) rfl rfl (by kernel_rfl) (by kernel_rfl) (by kernel_rfl) (fun _ _ _ h => h) (by rfl) ?_ (by assumption) ?_
    rotate_left
    · (intro w hSw; go_simp; first | done | with_reducible rfl)
    simp only [List.setIfInBounds_toArray, List.set_cons_zero, List.set_cons_succ]
    refine takeH 7 41 (v := ?_) rfl rfl (by kernel_rfl) (by kernel_rfl) (by kernel_rfl) (fun _ _ _ h => h) (by rfl) ?_ (by assumption) ?_
    rotate_left
    · (intro w hSw; go_simp; first | done | with_reducible rfl)
    simp only [List.setIfInBounds_toArray, List.set_cons_zero, List.set_cons_succ]
    refine takeH 8 42 (v := ?_) rfl rfl (by kernel_rfl) (by kernel_rfl) (by kernel_rfl) (fun _ _ _ h => h) (by rfl) ?_ (by assumption) ?_
    rotate_left
    · (intro w hSw; go_simp; first | done | with_reducible rfl)
    simp only [List.setIfInBounds_toArray, List.set_cons_zero, List.set_cons_succ]
    refine takeH 9 43 (v := ?_) rfl rfl (by kernel_rfl) (by kernel_rfl) (by kernel_rfl) (fun _ _ _ h => h) (by rfl) ?_ (by assumption) ?_
    rotate_left
    · (intro w hSw; go_simp; first | done | with_reducible rfl)
    simp only [List.setIfInBounds_toArray, List.set_cons_zero, List.set_cons_succ]
    refine takeH 10 44 (v := ?_) rfl rfl (by kernel_rfl) (by kernel_rfl) (by kernel_rfl) (fun _ _ _ h => h) (by rfl) ?_ (by assumption) ?_
    rotate_left
    · (intro w hSw; go_simp; first | done | with_reducible rfl)
    simp only [List.setIfInBounds_toArray, List.set_cons_zero, List.set_cons_succ]
    clear hw1 hw2 hw3 hw4
    refine wpAnyH_ready (rs := [4]) (by kernel_rfl) (by simp) ?_
    refine AllReadyH.cons (i := 4) rfl (fun K hK => ?_) AllReadyH.nil
    go_simp
    refine hK.out _ _ trivial (fun hHeld => ?_)
    clear hK K
    try simp only [Act.put, List.setIfInBounds_toArray, List.set_cons_zero, List.set_cons_succ]
    have hcv := conv_one (w1.alloc (Obj.cells #[Value.int IntKind.u8 by_] 5)).drew w1.heap.size by_ (by simp)
    refine wpAnyH_ready (rs := [5]) (by kernel_rfl) (by simp) ?_
    refine AllReadyH.cons (i := 5) rfl (fun K hK => ?_) AllReadyH.nil
    go_simp
    refine hK.out _ _ trivial (fun hHeld => ?_)
    clear hK K hcv
    try simp only [Act.put, List.setIfInBounds_toArray, List.set_cons_zero, List.set_cons_succ]
    have hc1 : ¬ (9223372036854775807 < k + 1) := by omega
    have hz1 : (s.extract 0 k).size = k := by rw [ByteArray.size_extract]; omega
    obtain ⟨A, hA⟩ : ∃ A, s.extract 0 k = A := ⟨_, rfl⟩
    rw [hA] at hz1 ⊢
    have hA1 : ¬ (9223372036854775807 < A.size + 1) := by omega
    have hA2 : A.size ≤ 457 := by omega
    clear hA hz1 hc1
    refine takeH 6 40 (v := ?_) rfl rfl (by kernel_rfl) (by kernel_rfl) (by kernel_rfl) (fun _ _ _ h => h) (by rfl) ?_ (by assumption) ?_
    rotate_left
    · (intro w hSw; go_simp; first | done | with_reducible rfl)
    simp only [List.setIfInBounds_toArray, List.set_cons_zero, List.set_cons_succ]
    have hz2 : (s.extract (k + 1) s.size).size ≤ 457 := by rw [ByteArray.size_extract]; omega
    obtain ⟨B, hB⟩ : ∃ B, s.extract (k + 1) s.size = B := ⟨_, rfl⟩
    rw [hB] at hz2 ⊢
    have hB1 : ¬ (9223372036854775807 < A.size + 1 + B.size) := by omega
    clear hB
    refine takeH 11 45 (v := ?_) rfl rfl (by kernel_rfl) (by kernel_rfl) (by kernel_rfl) (fun _ _ _ h => h) (by rfl) ?_ (by assumption) ?_
    rotate_left
    · (intro w hSw; go_simp; first | done | with_reducible rfl)
    simp only [List.setIfInBounds_toArray, List.set_cons_zero, List.set_cons_succ]
    have HBa := Lib.hid (HB1.out.trans (((Below.refl w1.heap.size w1).alloc (Nat.le_refl _) (.cells #[.int .u8 by_] 5)).drew.mono z1))
    have hag := Lib.hid (agrees_any (A ++ ⟨#[UInt8.ofNat by_.toNat]⟩ ++ B) _ (three_size A _ B (by omega)) (HK.out.below HBa.out hg))
    refine wpAnyH_ready (rs := [12]) (by kernel_rfl) (by simp) ?_
    refine AllReadyH.cons (i := 12) rfl (fun K hK => ?_) AllReadyH.nil
    go_simp
    refine hag.out.mono ?_
    rintro e w2 ⟨rfl, hB2⟩
    have HB2 := Lib.hid (HBa.out.trans (hB2.mono (by simp; omega)))
    have z2 := HB2.out.size
    clear hB2
    go_wp2_with fail
    refine hK.out _ _ trivial (fun hHeld => ?_)
    clear hK K
    try simp only [Act.put, List.setIfInBounds_toArray, List.set_cons_zero, List.set_cons_succ]
    refine takeH 13 47 (v := ?_) rfl rfl (by kernel_rfl) (by kernel_rfl) (by kernel_rfl) (fun _ _ _ h => h) (by rfl) ?_ (by assumption) ?_
    rotate_left
    · (intro w hSw; go_simp; first | done | with_reducible rfl)
    simp only [List.setIfInBounds_toArray, List.set_cons_zero, List.set_cons_succ]
    refine wpAnyH_ready (rs := [14]) (by kernel_rfl) (by simp) ?_
    refine AllReadyH.cons (i := 14) rfl (fun K hK => ?_) AllReadyH.nil
    go_simp
    refine (lives_any w2 (HK.out.below HB2.out hg)).mono ?_
    rintro e w6 ⟨rfl, hB6⟩
    have HB6 := Lib.hid (HB2.out.trans (hB6.mono z2))
    clear hB6
    go_wp2_with fail
    refine hK.out _ _ trivial (fun hHeld => ?_)
    clear hK K
    try simp only [Act.put, List.setIfInBounds_toArray, List.set_cons_zero, List.set_cons_succ]
    refine takeH 15 49 (v := ?_) rfl rfl (by kernel_rfl) (by kernel_rfl) (by kernel_rfl) (fun _ _ _ h => h) (by rfl) ?_ (by assumption) ?_
    rotate_left
    · (intro w hSw; go_simp; first | done | with_reducible rfl)
    simp only [List.setIfInBounds_toArray, List.set_cons_zero, List.set_cons_succ]
    refine takeH 16 8 (v := ?_) rfl rfl (by kernel_rfl) (by kernel_rfl) (by kernel_rfl) (fun _ _ _ h => h) (by rfl) ?_ (by assumption) ?_
    rotate_left
    · (intro w hSw; go_simp; first | done | with_reducible rfl)
    simp only [List.setIfInBounds_toArray, List.set_cons_zero, List.set_cons_succ]
    refine wpAnyH_done (by kernel_rfl) ?_ _
    go_wp2
    go_ret
    exact ⟨rfl, HB6.out⟩

end Go.Proofs.YtndlecddgihihaaDoor
