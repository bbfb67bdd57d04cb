/- the law WideTexts: its walk. -/
import Derived.Test.YtgfgjnkndfgdiaaDoorParseRound
import Derived.Test.YtgfgjnkndfgdiaaDoorRegTwo
namespace Go.Proofs.YtgfgjnkndfgdiaaDoor
open Go.RowKit

theorem conv_one (w : World) (g : Nat) (n : Int) (h : w.cell? ⟨g, 0, none⟩ = some (.int .u8 n)) :
    (convert 29 9 (.slice (some ⟨g, 0, none⟩) 1 1)).run Tryd.prog w = .ok (.string ⟨#[UInt8.ofNat n.toNat]⟩) w := by
  rw [run_convert_bytes_string w 29 9 5 _ _ _ Tryd.underlying29 Tryd.underlying5 Tryd.underlying9]
  have hl : (loadCells ⟨g, 0, none⟩ 1).run Tryd.prog w = .ok ([n].map (Value.int .u8)).toArray w := by
    simp [loadCells, go_sem, h]
  rw [run_bytesToString w ⟨g, 0, none⟩ 1 1 [n] hl]
  rfl
theorem ba_list (s : ByteArray) : s = ⟨s.data.toList.toArray⟩ := by cases s; simp
theorem ext_len (s : ByteArray) (n : Nat) : (s.extract 0 n).data.toList.length ≤ n := by
  rw [Array.length_toList]
  have h : (s.extract 0 n).data.size = (s.extract 0 n).size := rfl
  rw [h, ByteArray.size_extract]
  omega
/-- block g is a row of texts -/
def SRow (w : World) (g : Nat) (T : List Tx) : Prop := g < w.heap.size ∧ ∀ i (h : i < T.length), w.cell? ⟨g, i, none⟩ = some (sv T[i])
theorem SRow.below {w w' : World} {g : Nat} {T : List Tx} (h : SRow w g T) (hb : Below w.heap.size w w') : SRow w' g T :=
  ⟨Nat.lt_of_lt_of_le h.1 hb.size, fun i hi => (hb.cell (p := ⟨g, i, none⟩) h.1).trans (h.2 i hi)⟩
theorem SRow.five (w : World) (a b c d e : Tx) (g : Nat) (hg : w.heap.size = g) : SRow (w.alloc (.cells #[.string ⟨a.toArray⟩, .string ⟨b.toArray⟩, .string ⟨c.toArray⟩, .string ⟨d.toArray⟩, .string ⟨e.toArray⟩] 9)).drew g [a, b, c, d, e] := by
  subst hg
  have hc := fun i => cell_of_row (w.alloc (.cells #[.string ⟨a.toArray⟩, .string ⟨b.toArray⟩, .string ⟨c.toArray⟩, .string ⟨d.toArray⟩, .string ⟨e.toArray⟩] 9)) w.heap.size i _ 9 (0, 0) (heap_alloc_new w _)
  refine ⟨by show w.heap.size < (w.alloc _).heap.size; simp, fun i hi => ?_⟩
  match i, hi with
  | 0, _ => exact hc 0
  | 1, _ => exact hc 1
  | 2, _ => exact hc 2
  | 3, _ => exact hc 3
  | 4, _ => exact hc 4
theorem ba_one (x : UInt8) : (⟨#[x]⟩ : ByteArray) = ⟨([x] : Tx).toArray⟩ := rfl
theorem rint_zero (w : World) : RInt w (.agg #[.bool false, .slice none 0 0]) 0 := ⟨_, rfl, RowAt.nil none 0 (by omega)⟩
theorem zero_lim : (0 : Int).natAbs < LIM := lim_of_le (k := 1) (by decide) (by decide)
theorem decZ_pos (z : Int) : 0 < (decZ z).length := by
  unfold decZ
  split
  · simp
  · exact dec_len_pos _

set_option maxRecDepth 100000 in
set_option maxHeartbeats 4000000 in
theorem wideTexts_any (s : ByteArray) (v : Value) (zs : List Int) (len : Nat) (at_ : Int) (b : Int) (w0 : World) (hs : s.size ≤ 9223372036854775807) (h : IntsAt w0 v zs len) (h1 : -9223372036854775808 ≤ at_) (h2 : at_ ≤ 9223372036854775807) (_h3 : 0 ≤ b) (_h4 : b ≤ 255) (hT : Pow10 w0) :
    Calls Tryd.prog 3 #[.string s, v, .int .i64 at_, .int .u8 b] w0 fun e w' => e = .returned (.bool true) ∧ Below w0.heap.size w0 w' := by
  have HI := Lib.hid h
  have HP := Lib.hid hT
  have hg := hT.lt
  have HB := Lib.hid (Below.refl w0.heap.size w0)
  obtain ⟨va, vl, vc, rfl, hv⟩ : ∃ va vl vc, v = .slice va vl vc ∧ vl ≤ 9223372036854775807 := by
    rcases h with ⟨a, cap, rfl, rfl, hcap⟩ | ⟨b, off, cap, rfl, _, h1, h2, _⟩
    · exact ⟨_, _, _, rfl, by omega⟩
    · exact ⟨_, _, _, rfl, by omega⟩
  clear h hT
  go_enter Tryd.func3, Tryd.ntmps3
  go_wp2_with fail
  refine (number_any _ zs len 0 w0 (HI.out.below (Nat.le_refl _) HB.out) (by omega)).mono ?_
  rintro e w1 ⟨⟨va, rfl, ha⟩, hB⟩
  have HB := Lib.hid (HB.out.trans (hB.mono HB.out.size))
  have Ha := Lib.hid ha
  obtain ⟨s_a, a_a, n_a, c_a, rfl⟩ := ha.form2
  clear hB ha
  go_wp2_with fail
  refine (rtext_any _ _ w1 Ha.out (Nat.le_trans (lim_len4 _ (numZ_lim zs len 0)) (by omega))).mono ?_
  rintro e w2 ⟨rfl, hB⟩
  unfold sv
  have Ha := Lib.hid (Ha.out.below (Nat.le_refl _) hB)
  have HB := Lib.hid (HB.out.trans (hB.mono HB.out.size))
  clear hB 
  have htl := dec_lenZ (numZ zs len 0) (numZ_lim zs len 0)
  have htp : 0 < (decZ (numZ zs len 0)).length := decZ_pos _
  generalize decZ (numZ zs len 0) = t at *
  go_wp2_with fail
  have hr := around_range at_ (t.length : Int) (by omega)
  refine (around_any at_ (t.length : Int) w2 h1 h2 (by omega) (by omega)).mono ?_
  rintro e w3 ⟨rfl, rfl⟩
  obtain ⟨k, hk⟩ : ∃ k : Nat, around at_ (t.length : Int) = (k : Int) := ⟨_, (Int.toNat_of_nonneg hr.1).symm⟩
  rw [hk] at hr ⊢
  clear hk
  have hkt : k < t.length := by omega
  go_wp2_with fail
  have hw1 : IntKind.i64.wrap ((k : Int) + 1) = (k : Int) + 1 := IntWalk.i64_in _ (by omega)
  have k0 : (0 : Int) ≤ (k : Int) := by omega
  have k1 : (k : Int) ≤ (t.length : Int) := by omega
  have k2 : (k : Int) + 1 ≤ (t.length : Int) := by omega
  have k3 : (0 : Int) ≤ (k : Int) + 1 := by omega
  have k4 : ((k : Int) + 1).toNat = k + 1 := by omega
  clear hr
  obtain ⟨A, hA, hAl⟩ : ∃ A : Tx, (⟨t.toArray⟩ : ByteArray).extract 0 k = ⟨A.toArray⟩ ∧ A.length = k := ⟨t.take k, by rw [ba_sub]; rfl, by rw [List.length_take]; omega⟩
  obtain ⟨B, hBb, hBl⟩ : ∃ B : Tx, (⟨t.toArray⟩ : ByteArray).extract (k + 1) t.length = ⟨B.toArray⟩ ∧ B.length ≤ 4934 := ⟨t.drop (k + 1), by rw [ba_sub, List.take_length], by rw [List.length_drop]; omega⟩
  obtain ⟨S, hS, hSl⟩ : ∃ S : Tx, s.extract 0 30 = ⟨S.toArray⟩ ∧ S.length ≤ 30 := ⟨(s.extract 0 30).data.toList, ba_list _, ext_len s 30⟩
  have HS := Lib.hid hS
  clear hS
  have Hsh : Hid (∀ w, Calls Tryd.prog 15 #[.string s, .int .i64 30] w fun e w' => e = .returned (.string ⟨S.toArray⟩) ∧ w = w') := Lib.hid (fun w => by have h9 := short_any s 30 w hs (by omega); rw [HS.out] at h9; exact h9)
  have l1 : ¬ (9223372036854775807 < t.length + t.length) := by omega
  have l2 : ¬ (9223372036854775807 < A.length + 1) := by omega
  have l3 : ¬ (9223372036854775807 < A.length + 1 + B.length) := by omega
  have hAl2 : A.length ≤ 4934 := by omega
  clear hAl
  have hb1 : (⟨#[UInt8.ofNat b.toNat]⟩ : ByteArray).size = 1 := rfl
  refine startK 99 (fun _ => True) (by kernel_rfl) (trivial) (fun hHeld => ?_)
  refine takeK 0 24 (v := ?_) rfl rfl (by kernel_rfl) (by kernel_rfl) (by kernel_rfl) (by kernel_rfl) (fun _ _ _ h => h) (by rfl) ?_ (by assumption) ?_
  rotate_left
  · (intro w hSw; go_simp; first | done | with_reducible rfl)
  simp only [List.setIfInBounds_toArray, List.set_cons_zero, List.set_cons_succ]
  refine takeK 2 26 (v := ?_) rfl rfl (by kernel_rfl) (by kernel_rfl) (by kernel_rfl) (by kernel_rfl) (fun _ _ _ h => h) (by rfl) ?_ (by assumption) ?_
  rotate_left
  · (intro w hSw; go_simp; first | done | with_reducible rfl)
  simp only [List.setIfInBounds_toArray, List.set_cons_zero, List.set_cons_succ]
  refine takeK 3 27 (v := ?_) rfl rfl (by kernel_rfl) (by kernel_rfl) (by kernel_rfl) (by kernel_rfl) (fun _ _ _ h => h) (by rfl) ?_ (by assumption) ?_
  rotate_left
  · (intro w hSw; go_simp; first | done | with_reducible rfl)
  simp only [List.setIfInBounds_toArray, List.set_cons_zero, List.set_cons_succ]
  refine takeK 4 28 (v := ?_) rfl rfl (by kernel_rfl) (by kernel_rfl) (by kernel_rfl) (by kernel_rfl) (fun _ _ _ h => h) (by rfl) ?_ (by assumption) ?_
  rotate_left
  · (intro w hSw; go_simp; first | done | with_reducible rfl)
  simp only [List.setIfInBounds_toArray, List.set_cons_zero, List.set_cons_succ]
  refine takeK 5 29 (v := ?_) rfl rfl (by kernel_rfl) (by kernel_rfl) (by kernel_rfl) (by kernel_rfl) (fun _ _ _ h => h) (by rfl) ?_ (by assumption) ?_
  rotate_left
  · (intro w hSw; go_simp; first | done | with_reducible rfl)
  simp only [List.setIfInBounds_toArray, List.set_cons_zero, List.set_cons_succ]
  refine takeK 6 30 (v := ?_) rfl rfl (by kernel_rfl) (by kernel_rfl) (by kernel_rfl) (by kernel_rfl) (fun _ _ _ h => h) (by rfl) ?_ (by assumption) ?_
  rotate_left
  · (intro w hSw; go_simp; first | done | with_reducible rfl)
  simp only [List.setIfInBounds_toArray, List.set_cons_zero, List.set_cons_succ]
  refine takeK 10 34 (v := ?_) rfl rfl (by kernel_rfl) (by kernel_rfl) (by kernel_rfl) (by kernel_rfl) (fun _ _ _ h => h) (by rfl) ?_ (by assumption) ?_
  rotate_left
  · (intro w hSw; go_simp; first | done | with_reducible rfl)
  simp only [List.setIfInBounds_toArray, List.set_cons_zero, List.set_cons_succ]
  refine takeK 11 35 (v := ?_) rfl rfl (by kernel_rfl) (by kernel_rfl) (by kernel_rfl) (by kernel_rfl) (fun _ _ _ h => h) (by rfl) ?_ (by assumption) ?_
  rotate_left
  · (intro w hSw; go_simp; first | done | with_reducible rfl)
  simp only [List.setIfInBounds_toArray, List.set_cons_zero, List.set_cons_succ]
  refine takeK 12 36 (v := ?_) rfl rfl (by kernel_rfl) (by kernel_rfl) (by kernel_rfl) (by kernel_rfl) (fun _ _ _ h => h) (by rfl) ?_ (by assumption) ?_
  rotate_left
  · (intro w hSw; go_simp; first | done | with_reducible rfl)
  simp only [List.setIfInBounds_toArray, List.set_cons_zero, List.set_cons_succ]
  refine takeK 13 37 (v := ?_) rfl rfl (by kernel_rfl) (by kernel_rfl) (by kernel_rfl) (by kernel_rfl) (fun _ _ _ h => h) (by rfl) ?_ (by assumption) ?_
  rotate_left
  · (intro w hSw; go_simp; first | done | with_reducible rfl)
  simp only [List.setIfInBounds_toArray, List.set_cons_zero, List.set_cons_succ]
  refine takeK 15 39 (v := ?_) rfl rfl (by kernel_rfl) (by kernel_rfl) (by kernel_rfl) (by kernel_rfl) (fun _ _ _ h => h) (by rfl) ?_ (by assumption) ?_
  rotate_left
  · (intro w hSw; go_simp; first | done | with_reducible rfl)
  simp only [List.setIfInBounds_toArray, List.set_cons_zero, List.set_cons_succ]
  refine takeK 16 40 (v := ?_) rfl rfl (by kernel_rfl) (by kernel_rfl) (by kernel_rfl) (by kernel_rfl) (fun _ _ _ h => h) (by rfl) ?_ (by assumption) ?_
  rotate_left
  · (intro w hSw; go_simp; first | done | with_reducible rfl)
  simp only [List.setIfInBounds_toArray, List.set_cons_zero, List.set_cons_succ]
  refine takeK 17 41 (v := ?_) rfl rfl (by kernel_rfl) (by kernel_rfl) (by kernel_rfl) (by kernel_rfl) (fun _ _ _ h => h) (by rfl) ?_ (by assumption) ?_
  rotate_left
  · (intro w hSw; go_simp; first | done | with_reducible rfl)
  simp only [List.setIfInBounds_toArray, List.set_cons_zero, List.set_cons_succ]
  refine takeK 18 42 (v := ?_) rfl rfl (by kernel_rfl) (by kernel_rfl) (by kernel_rfl) (by kernel_rfl) (fun _ _ _ h => h) (by rfl) ?_ (by assumption) ?_
  rotate_left
  · (intro w hSw; go_simp; first | done | with_reducible rfl)
  simp only [List.setIfInBounds_toArray, List.set_cons_zero, List.set_cons_succ]
  refine takeK 19 43 (v := ?_) rfl rfl (by kernel_rfl) (by kernel_rfl) (by kernel_rfl) (by kernel_rfl) (fun _ _ _ h => h) (by rfl) ?_ (by assumption) ?_
  rotate_left
  · (intro w hSw; go_simp; first | done | with_reducible rfl)
  simp only [List.setIfInBounds_toArray, List.set_cons_zero, List.set_cons_succ]
  refine takeK 20 44 (v := ?_) rfl rfl (by kernel_rfl) (by kernel_rfl) (by kernel_rfl) (by kernel_rfl) (fun _ _ _ h => h) (by rfl) ?_ (by assumption) ?_
  rotate_left
  · (intro w hSw; go_simp; first | done | with_reducible rfl)
  simp only [List.setIfInBounds_toArray, List.set_cons_zero, List.set_cons_succ]
  clear hw1 k0 k1 k2 k3 k4 l1
  refine twoK 1 7 (by kernel_rfl) rfl rfl (fun K hK => ?_) (fun K hK => ?_)
  · skip
    go_simp
    refine (Hsh.out _).mono ?_
    rintro e w_s ⟨rfl, rfl⟩
    go_wp2_with fail
    refine hK.out _ _ trivial (fun hHeld => ?_)
    clear hK K
    try simp only [Act.put, List.setIfInBounds_toArray, List.set_cons_zero, List.set_cons_succ]
    refine stepK 7 (by kernel_rfl) rfl (fun K hK => ?_)
    go_simp
    refine hK.out _ _ trivial (fun hHeld => ?_)
    clear hK K
    try simp only [Act.put, List.setIfInBounds_toArray, List.set_cons_zero, List.set_cons_succ]
    refine strongK (S' := fun w' => w'.cell? ⟨w2.heap.size, 0, none⟩ = some (.int .u8 b)) (fun _ _ => trivial) (by simp) (fun hHeld => ?_)
    refine takeK 8 32 (v := ?_) rfl rfl (by kernel_rfl) (by kernel_rfl) (by kernel_rfl) (by kernel_rfl) (fun _ _ _ h => h) (by rfl) ?_ (by assumption) ?_
    rotate_left
    · (intro w hSw; have hcv := conv_one w w2.heap.size b hSw; go_simp; first | done | with_reducible rfl)
    simp only [List.setIfInBounds_toArray, List.set_cons_zero, List.set_cons_succ]
    refine takeK 9 33 (v := ?_) rfl rfl (by kernel_rfl) (by kernel_rfl) (by kernel_rfl) (by kernel_rfl) (fun _ _ _ h => h) (by rfl) ?_ (by assumption) ?_
    rotate_left
    · (intro w hSw; go_simp; first | done | with_reducible rfl)
    simp only [List.setIfInBounds_toArray, List.set_cons_zero, List.set_cons_succ]
    refine takeK 14 38 (v := ?_) rfl rfl (by kernel_rfl) (by kernel_rfl) (by kernel_rfl) (by kernel_rfl) (fun _ _ _ h => h) (by rfl) ?_ (by assumption) ?_
    rotate_left
    · (intro w hSw; go_simp; first | done | with_reducible rfl)
    simp only [List.setIfInBounds_toArray, List.set_cons_zero, List.set_cons_succ]
    refine stepK 21 (by kernel_rfl) rfl (fun K hK => ?_)
    go_simp
    refine hK.out _ _ (by simp) (fun hHeld => ?_)
    clear hK K
    try simp only [Act.put, List.setIfInBounds_toArray, List.set_cons_zero, List.set_cons_succ]
    refine takeK 22 11 (v := ?_) rfl rfl (by kernel_rfl) (by kernel_rfl) (by kernel_rfl) (by kernel_rfl) (fun _ _ _ h => h) (by rfl) ?_ (by assumption) ?_
    rotate_left
    · (intro w hSw; go_simp; first | done | with_reducible rfl)
    simp only [List.setIfInBounds_toArray, List.set_cons_zero, List.set_cons_succ]
    refine doneK (by kernel_rfl) ?_ _
    clear hHeld
    go_wp2_with fail
    clear l2 l3 hA hBb hb1 Hsh HS
    rw [ba_one, ba_app, ba_app, ba_app]
    have HTl : Hid (∀ u ∈ [S, t, A ++ [UInt8.ofNat b.toNat] ++ B, A, t ++ t], u.length ≤ 20000) := Lib.hid (by intro u hu; simp only [List.mem_cons, List.not_mem_nil, or_false] at hu; rcases hu with rfl | rfl | rfl | rfl | rfl <;> (try simp only [List.length_append, List.length_singleton]) <;> omega)
    generalize A ++ [UInt8.ofNat b.toNat] ++ B = Y at *
    generalize A ++ [UInt8.ofNat b.toNat] = X at *
    generalize t ++ t = TT at *
    obtain ⟨W, hW⟩ : ∃ W, ((w2.alloc (.cells #[.int .u8 b] 5)).alloc (.cells #[.string ⟨S.toArray⟩, .string ⟨t.toArray⟩, .string ⟨Y.toArray⟩, .string ⟨A.toArray⟩, .string ⟨TT.toArray⟩] 9)).drew = W := ⟨_, rfl⟩
    have HBW : Hid (Below w0.heap.size w0 W) := Lib.hid (by rw [← hW]; exact ((HB.out.alloc HB.out.size _).alloc (by have := HB.out.size; simp; omega) _).drew)
    have HSR : Hid (SRow W (w2.heap.size + 1) [S, t, Y, A, TT]) := Lib.hid (by rw [← hW]; exact SRow.five _ _ _ _ _ _ _ (by simp))
    obtain ⟨g, hgg⟩ : ∃ g, w2.heap.size + 1 = g := ⟨_, rfl⟩
    rw [hgg] at HSR
    rw [hW, hgg]
    clear hW hgg HB
    obtain ⟨T, hT⟩ : ∃ T, [S, t, Y, A, TT] = T := ⟨_, rfl⟩
    have hTl : T.length = 5 := by rw [← hT]; rfl
    rw [hT] at HSR HTl
    clear hT hSl hBl hAl2 hkt htp htl
    go_loopw [12] (fun i wr => ∃ (j : Nat), j ≤ 5 ∧ i = .int .i64 j ∧ Hid (Below W.heap.size W wr)) (fun i _ => 5 - (intOf i).toNat)
    case atStart => exact ⟨0, by omega, rfl, Lib.hid (Below.refl _ _)⟩
    case round =>
      obtain ⟨j, hj, rfl, hBl⟩ := hrel
      obtain ⟨w9, rfl⟩ : ∃ w' : World, w' = wr := ⟨_, rfl⟩
      have HB := Lib.hid (HBW.out.trans (hBl.out.mono HBW.out.size))
      have HBl := hBl
      clear hBl
      by_cases hlt : j < 5
      · skip
        have HR := Lib.hid (HSR.out.below HBl.out)
        have hjl : j < T.length := by omega
        obtain ⟨u, hu⟩ : ∃ u, T[j] = u := ⟨_, rfl⟩
        have hul : u.length ≤ 20000 := HTl.out u (by rw [← hu]; exact List.getElem_mem _)
        have Huj := Lib.hid hu
        clear hu
        have Hpc := parse_cases u
        rcases Hpc with hp | hp | ⟨z, hp, hz⟩
        · skip
          have e0 := HR.out.2 j hjl
          rw [Huj.out] at e0
          unfold sv at e0
          go_wp2_with fail
          clear e0
          refine (parse_any u w9 (by omega)).mono ?_
          rintro e w10 ⟨hB, he⟩
          rw [hp] at he
          obtain rfl := he
          obtain ⟨vx, hvx⟩ : ∃ v, (Value.agg #[.bool false, .slice none 0 0]) = v := ⟨_, rfl⟩
          have hx : WInt w10 vx 0 := by rw [← hvx]; exact wint_zero _
          rw [hvx]
          clear hvx
          have HR := Lib.hid (HR.out.below hB)
          have HB := Lib.hid (HB.out.trans (hB.mono HB.out.size))
          have HBl := Lib.hid (HBl.out.trans (hB.mono HBl.out.size))
          have Hx := Lib.hid hx
          obtain ⟨s_x, a_x, n_x, c_x, rfl⟩ := hx.form2
          clear hB hx
          obtain ⟨w11, hw⟩ : ∃ w', (w10.alloc (.cells #[.bool s_x, .slice a_x n_x c_x] 33)) = w' := ⟨_, rfl⟩
          have hB : Below w10.heap.size w10 w11 := by rw [← hw]; exact (Below.refl _ _).alloc (Nat.le_refl _) _
          obtain ⟨b_x, hb_x⟩ : ∃ b, w10.heap.size = b := ⟨_, rfl⟩
          have Tx' : Hid (Two w11 b_x 33 (.bool s_x) (.slice a_x n_x c_x)) := Lib.hid (by rw [← hw, ← hb_x]; have h9 := (Two.new w10 33 (.bool s_x) (.slice a_x n_x c_x)); exact h9)
          have HR := Lib.hid (HR.out.below hB)
          have Hx := Lib.hid (Hx.out.below hB)
          have HB := Lib.hid (HB.out.trans (hB.mono HB.out.size))
          have HBl := Lib.hid (HBl.out.trans (hB.mono HBl.out.size))
          have Tx := Tx'
          clear hB Tx'
          have e0 := HR.out.2 j hjl
          rw [Huj.out] at e0
          unfold sv at e0
          go_wp2_with fail
          clear e0
          clear hw hb_x
          refine (rparse_any u w11 (by omega)).mono ?_
          rintro e w12 ⟨hB, he⟩
          rw [hp] at he
          obtain rfl := he
          obtain ⟨va, hva⟩ : ∃ v, (Value.agg #[.bool false, .slice none 0 0]) = v := ⟨_, rfl⟩
          have ha : RInt w12 va 0 := by rw [← hva]; exact rint_zero _
          rw [hva]
          clear hva
          have HR := Lib.hid (HR.out.below hB)
          have Hx := Lib.hid (Hx.out.below hB)
          have Tx := Lib.hid (Tx.out.below hB Tx.out.lt)
          have HB := Lib.hid (HB.out.trans (hB.mono HB.out.size))
          have HBl := Lib.hid (HBl.out.trans (hB.mono HBl.out.size))
          have Ha := Lib.hid ha
          obtain ⟨s_a, a_a, n_a, c_a, rfl⟩ := ha.form2
          clear hB ha
          obtain ⟨w13, hw⟩ : ∃ w', (w12.alloc (.cells #[.bool s_a, .slice a_a n_a c_a] 25)) = w' := ⟨_, rfl⟩
          have hB : Below w12.heap.size w12 w13 := by rw [← hw]; exact (Below.refl _ _).alloc (Nat.le_refl _) _
          obtain ⟨b_a, hb_a⟩ : ∃ b, w12.heap.size = b := ⟨_, rfl⟩
          have Ta' : Hid (Two w13 b_a 25 (.bool s_a) (.slice a_a n_a c_a)) := Lib.hid (by rw [← hw, ← hb_a]; have h9 := (Two.new w12 25 (.bool s_a) (.slice a_a n_a c_a)); exact h9)
          have HR := Lib.hid (HR.out.below hB)
          have Hx := Lib.hid (Hx.out.below hB)
          have Ha := Lib.hid (Ha.out.below (Nat.le_refl _) hB)
          have Tx := Lib.hid (Tx.out.below hB Tx.out.lt)
          have HB := Lib.hid (HB.out.trans (hB.mono HB.out.size))
          have HBl := Lib.hid (HBl.out.trans (hB.mono HBl.out.size))
          have Ta := Ta'
          clear hB Ta'
          go_wp2_with fail
          clear hw hb_a
          have hj0 : (0 : Int) ≤ (j : Int) := by omega
          have hj1 : (j : Int) < 5 := by omega
          have hB : Below w13.heap.size w13 w13.drew := ⟨rfl, rfl, rfl, Nat.le_refl _, fun _ _ => rfl⟩
          have HR := Lib.hid (HR.out.below hB)
          have Hx := Lib.hid (Hx.out.below hB)
          have Ha := Lib.hid (Ha.out.below (Nat.le_refl _) hB)
          have Tx := Lib.hid (Tx.out.below hB Tx.out.lt)
          have Ta := Lib.hid (Ta.out.below hB Ta.out.lt)
          have HB := Lib.hid (HB.out.trans (hB.mono HB.out.size))
          have HBl := Lib.hid (HBl.out.trans (hB.mono HBl.out.size))
          clear hB
          refine startK 99 (fun w' => w'.cell? ⟨b_x, 0, none⟩ = some (.bool s_x) ∧ w'.cell? ⟨b_x, 1, none⟩ = some (.slice a_x n_x c_x) ∧ w'.cell? ⟨b_a, 0, none⟩ = some (.bool s_a) ∧ w'.cell? ⟨b_a, 1, none⟩ = some (.slice a_a n_a c_a)) (by kernel_rfl) (⟨Tx.out.cell0, Tx.out.cell1, Ta.out.cell0, Ta.out.cell1⟩) (fun hHeld => ?_)
          refine takeK 0 68 (v := ?_) rfl rfl (by kernel_rfl) (by kernel_rfl) (by kernel_rfl) (by kernel_rfl) (fun _ _ _ h => h) (by rfl) ?_ (by assumption) ?_
          rotate_left
          · (intro w hSw; go_simp; first | done | with_reducible rfl)
          simp only [List.setIfInBounds_toArray, List.set_cons_zero, List.set_cons_succ]
          refine takeK 1 69 (v := ?_) rfl rfl (by kernel_rfl) (by kernel_rfl) (by kernel_rfl) (by kernel_rfl) (fun _ _ _ h => h) (by rfl) ?_ (by assumption) ?_
          rotate_left
          · (intro w hSw; go_simp; first | done | with_reducible rfl)
          simp only [List.setIfInBounds_toArray, List.set_cons_zero, List.set_cons_succ]
          refine takeK 2 70 (v := ?_) rfl rfl (by kernel_rfl) (by kernel_rfl) (by kernel_rfl) (by kernel_rfl) (fun _ _ _ h => h) (by rfl) ?_ (by assumption) ?_
          rotate_left
          · (intro w hSw; go_simp; first | done | with_reducible rfl)
          simp only [List.setIfInBounds_toArray, List.set_cons_zero, List.set_cons_succ]
          refine takeK 3 71 (v := ?_) rfl rfl (by kernel_rfl) (by kernel_rfl) (by kernel_rfl) (by kernel_rfl) (fun _ _ _ h => h) (by rfl) ?_ (by assumption) ?_
          rotate_left
          · (intro w hSw; go_simp; first | done | with_reducible rfl)
          simp only [List.setIfInBounds_toArray, List.set_cons_zero, List.set_cons_succ]
          refine takeK 4 72 (v := ?_) rfl rfl (by kernel_rfl) (by kernel_rfl) (by kernel_rfl) (by kernel_rfl) (fun _ _ _ h => h) (by rfl) ?_ (by assumption) ?_
          rotate_left
          · (intro w hSw; go_simp; first | done | with_reducible rfl)
          simp only [List.setIfInBounds_toArray, List.set_cons_zero, List.set_cons_succ]
          refine takeK 5 73 (v := ?_) rfl rfl (by kernel_rfl) (by kernel_rfl) (by kernel_rfl) (by kernel_rfl) (fun _ _ _ h => h) (by rfl) ?_ (by assumption) ?_
          rotate_left
          · (intro w hSw; go_simp; first | done | with_reducible rfl)
          simp only [List.setIfInBounds_toArray, List.set_cons_zero, List.set_cons_succ]
          refine stepK 6 (by kernel_rfl) rfl (fun K hK => ?_)
          go_simp
          refine (equal_any _ _ _ w13.drew Hx.out Ha.out zero_lim (HP.out.below HB.out hg)).mono ?_
          rintro e w14 ⟨rfl, hB⟩
          have HR := Lib.hid (HR.out.below hB)
          have Hx := Lib.hid (Hx.out.below hB)
          have Ha := Lib.hid (Ha.out.below (Nat.le_refl _) hB)
          have Tx := Lib.hid (Tx.out.below hB Tx.out.lt)
          have Ta := Lib.hid (Ta.out.below hB Ta.out.lt)
          have HB := Lib.hid (HB.out.trans (hB.mono HB.out.size))
          have HBl := Lib.hid (HBl.out.trans (hB.mono HBl.out.size))
          clear hB
          go_wp2_with fail
          refine hK.out _ _ (⟨Tx.out.cell0, Tx.out.cell1, Ta.out.cell0, Ta.out.cell1⟩) (fun hHeld => ?_)
          clear hK K
          try simp only [Act.put, List.setIfInBounds_toArray, List.set_cons_zero, List.set_cons_succ]
          refine takeK 7 75 (v := ?_) rfl rfl (by kernel_rfl) (by kernel_rfl) (by kernel_rfl) (by kernel_rfl) (fun _ _ _ h => h) (by rfl) ?_ (by assumption) ?_
          rotate_left
          · (intro w hSw; go_simp; first | done | with_reducible rfl)
          simp only [List.setIfInBounds_toArray, List.set_cons_zero, List.set_cons_succ]
          refine takeK 8 76 (v := ?_) rfl rfl (by kernel_rfl) (by kernel_rfl) (by kernel_rfl) (by kernel_rfl) (fun _ _ _ h => h) (by rfl) ?_ (by assumption) ?_
          rotate_left
          · (intro w hSw; go_simp; first | done | with_reducible rfl)
          simp only [List.setIfInBounds_toArray, List.set_cons_zero, List.set_cons_succ]
          refine takeK 9 77 (v := ?_) rfl rfl (by kernel_rfl) (by kernel_rfl) (by kernel_rfl) (by kernel_rfl) (fun _ _ _ h => h) (by rfl) ?_ (by assumption) ?_
          rotate_left
          · (intro w hSw; go_simp; first | done | with_reducible rfl)
          simp only [List.setIfInBounds_toArray, List.set_cons_zero, List.set_cons_succ]
          refine takeK 10 78 (v := ?_) rfl rfl (by kernel_rfl) (by kernel_rfl) (by kernel_rfl) (by kernel_rfl) (fun _ _ _ h => h) (by rfl) ?_ (by assumption) ?_
          rotate_left
          · (intro w hSw; go_simp; first | done | with_reducible rfl)
          simp only [List.setIfInBounds_toArray, List.set_cons_zero, List.set_cons_succ]
          refine takeK 11 79 (v := ?_) rfl rfl (by kernel_rfl) (by kernel_rfl) (by kernel_rfl) (by kernel_rfl) (fun _ _ _ h => h) (by rfl) ?_ (by assumption) ?_
          rotate_left
          · (intro w hSw; go_simp; first | done | with_reducible rfl)
          simp only [List.setIfInBounds_toArray, List.set_cons_zero, List.set_cons_succ]
          refine takeK 12 80 (v := ?_) rfl rfl (by kernel_rfl) (by kernel_rfl) (by kernel_rfl) (by kernel_rfl) (fun _ _ _ h => h) (by rfl) ?_ (by assumption) ?_
          rotate_left
          · (intro w hSw; go_simp; first | done | with_reducible rfl)
          simp only [List.setIfInBounds_toArray, List.set_cons_zero, List.set_cons_succ]
          refine skipK 13 81 rfl rfl (by kernel_rfl) (by kernel_rfl) (by kernel_rfl) (by kernel_rfl) (fun _ _ _ h => h) (by rfl) (by assumption) ?_
          simp only [List.setIfInBounds_toArray, List.set_cons_zero, List.set_cons_succ]
          refine skipK 14 82 rfl rfl (by kernel_rfl) (by kernel_rfl) (by kernel_rfl) (by kernel_rfl) (fun _ _ _ h => h) (by rfl) (by assumption) ?_
          simp only [List.setIfInBounds_toArray, List.set_cons_zero, List.set_cons_succ]
          refine skipK 15 83 rfl rfl (by kernel_rfl) (by kernel_rfl) (by kernel_rfl) (by kernel_rfl) (fun _ _ _ h => h) (by rfl) (by assumption) ?_
          simp only [List.setIfInBounds_toArray, List.set_cons_zero, List.set_cons_succ]
          refine skipK 16 84 rfl rfl (by kernel_rfl) (by kernel_rfl) (by kernel_rfl) (by kernel_rfl) (fun _ _ _ h => h) (by rfl) (by assumption) ?_
          simp only [List.setIfInBounds_toArray, List.set_cons_zero, List.set_cons_succ]
          refine skipK 17 85 rfl rfl (by kernel_rfl) (by kernel_rfl) (by kernel_rfl) (by kernel_rfl) (fun _ _ _ h => h) (by rfl) (by assumption) ?_
          simp only [List.setIfInBounds_toArray, List.set_cons_zero, List.set_cons_succ]
          refine skipK 18 86 rfl rfl (by kernel_rfl) (by kernel_rfl) (by kernel_rfl) (by kernel_rfl) (fun _ _ _ h => h) (by rfl) (by assumption) ?_
          simp only [List.setIfInBounds_toArray, List.set_cons_zero, List.set_cons_succ]
          refine skipK 19 87 rfl rfl (by kernel_rfl) (by kernel_rfl) (by kernel_rfl) (by kernel_rfl) (fun _ _ _ h => h) (by rfl) (by assumption) ?_
          simp only [List.setIfInBounds_toArray, List.set_cons_zero, List.set_cons_succ]
          refine takeK 20 88 (v := ?_) rfl rfl (by kernel_rfl) (by kernel_rfl) (by kernel_rfl) (by kernel_rfl) (fun _ _ _ h => h) (by rfl) ?_ (by assumption) ?_
          rotate_left
          · (intro w hSw; go_simp; first | done | with_reducible rfl)
          simp only [List.setIfInBounds_toArray, List.set_cons_zero, List.set_cons_succ]
          refine takeK 21 89 (v := ?_) rfl rfl (by kernel_rfl) (by kernel_rfl) (by kernel_rfl) (by kernel_rfl) (fun _ _ _ h => h) (by rfl) ?_ (by assumption) ?_
          rotate_left
          · (intro w hSw; go_simp; first | done | with_reducible rfl)
          simp only [List.setIfInBounds_toArray, List.set_cons_zero, List.set_cons_succ]
          refine doneK (by kernel_rfl) ?_ _
          clear hHeld
          go_wp2_with fail
          go_roundw
          case rel => exact ⟨j + 1, by omega, by go_num, HBl⟩
          case measure => simp [intOf]; omega
        · skip
          have e0 := HR.out.2 j hjl
          rw [Huj.out] at e0
          unfold sv at e0
          go_wp2_with fail
          clear e0
          refine (parse_any u w9 (by omega)).mono ?_
          rintro e w10 ⟨hB, he⟩
          rw [hp] at he
          obtain rfl := he
          obtain ⟨vx, hvx⟩ : ∃ v, (Value.agg #[.bool false, .slice none 0 0]) = v := ⟨_, rfl⟩
          have hx : WInt w10 vx 0 := by rw [← hvx]; exact wint_zero _
          rw [hvx]
          clear hvx
          have HR := Lib.hid (HR.out.below hB)
          have HB := Lib.hid (HB.out.trans (hB.mono HB.out.size))
          have HBl := Lib.hid (HBl.out.trans (hB.mono HBl.out.size))
          have Hx := Lib.hid hx
          obtain ⟨s_x, a_x, n_x, c_x, rfl⟩ := hx.form2
          clear hB hx
          obtain ⟨w11, hw⟩ : ∃ w', (w10.alloc (.cells #[.bool s_x, .slice a_x n_x c_x] 33)) = w' := ⟨_, rfl⟩
          have hB : Below w10.heap.size w10 w11 := by rw [← hw]; exact (Below.refl _ _).alloc (Nat.le_refl _) _
          obtain ⟨b_x, hb_x⟩ : ∃ b, w10.heap.size = b := ⟨_, rfl⟩
          have Tx' : Hid (Two w11 b_x 33 (.bool s_x) (.slice a_x n_x c_x)) := Lib.hid (by rw [← hw, ← hb_x]; have h9 := (Two.new w10 33 (.bool s_x) (.slice a_x n_x c_x)); exact h9)
          have HR := Lib.hid (HR.out.below hB)
          have Hx := Lib.hid (Hx.out.below hB)
          have HB := Lib.hid (HB.out.trans (hB.mono HB.out.size))
          have HBl := Lib.hid (HBl.out.trans (hB.mono HBl.out.size))
          have Tx := Tx'
          clear hB Tx'
          have e0 := HR.out.2 j hjl
          rw [Huj.out] at e0
          unfold sv at e0
          go_wp2_with fail
          clear e0
          clear hw hb_x
          refine (rparse_any u w11 (by omega)).mono ?_
          rintro e w12 ⟨hB, he⟩
          rw [hp] at he
          obtain rfl := he
          obtain ⟨va, hva⟩ : ∃ v, (Value.agg #[.bool false, .slice none 0 0]) = v := ⟨_, rfl⟩
          have ha : RInt w12 va 0 := by rw [← hva]; exact rint_zero _
          rw [hva]
          clear hva
          have HR := Lib.hid (HR.out.below hB)
          have Hx := Lib.hid (Hx.out.below hB)
          have Tx := Lib.hid (Tx.out.below hB Tx.out.lt)
          have HB := Lib.hid (HB.out.trans (hB.mono HB.out.size))
          have HBl := Lib.hid (HBl.out.trans (hB.mono HBl.out.size))
          have Ha := Lib.hid ha
          obtain ⟨s_a, a_a, n_a, c_a, rfl⟩ := ha.form2
          clear hB ha
          obtain ⟨w13, hw⟩ : ∃ w', (w12.alloc (.cells #[.bool s_a, .slice a_a n_a c_a] 25)) = w' := ⟨_, rfl⟩
          have hB : Below w12.heap.size w12 w13 := by rw [← hw]; exact (Below.refl _ _).alloc (Nat.le_refl _) _
          obtain ⟨b_a, hb_a⟩ : ∃ b, w12.heap.size = b := ⟨_, rfl⟩
          have Ta' : Hid (Two w13 b_a 25 (.bool s_a) (.slice a_a n_a c_a)) := Lib.hid (by rw [← hw, ← hb_a]; have h9 := (Two.new w12 25 (.bool s_a) (.slice a_a n_a c_a)); exact h9)
          have HR := Lib.hid (HR.out.below hB)
          have Hx := Lib.hid (Hx.out.below hB)
          have Ha := Lib.hid (Ha.out.below (Nat.le_refl _) hB)
          have Tx := Lib.hid (Tx.out.below hB Tx.out.lt)
          have HB := Lib.hid (HB.out.trans (hB.mono HB.out.size))
          have HBl := Lib.hid (HBl.out.trans (hB.mono HBl.out.size))
          have Ta := Ta'
          clear hB Ta'
          go_wp2_with fail
          clear hw hb_a
          have hj0 : (0 : Int) ≤ (j : Int) := by omega
          have hj1 : (j : Int) < 5 := by omega
          have hB : Below w13.heap.size w13 w13.drew := ⟨rfl, rfl, rfl, Nat.le_refl _, fun _ _ => rfl⟩
          have HR := Lib.hid (HR.out.below hB)
          have Hx := Lib.hid (Hx.out.below hB)
          have Ha := Lib.hid (Ha.out.below (Nat.le_refl _) hB)
          have Tx := Lib.hid (Tx.out.below hB Tx.out.lt)
          have Ta := Lib.hid (Ta.out.below hB Ta.out.lt)
          have HB := Lib.hid (HB.out.trans (hB.mono HB.out.size))
          have HBl := Lib.hid (HBl.out.trans (hB.mono HBl.out.size))
          clear hB
          refine startK 99 (fun w' => w'.cell? ⟨b_x, 0, none⟩ = some (.bool s_x) ∧ w'.cell? ⟨b_x, 1, none⟩ = some (.slice a_x n_x c_x) ∧ w'.cell? ⟨b_a, 0, none⟩ = some (.bool s_a) ∧ w'.cell? ⟨b_a, 1, none⟩ = some (.slice a_a n_a c_a)) (by kernel_rfl) (⟨Tx.out.cell0, Tx.out.cell1, Ta.out.cell0, Ta.out.cell1⟩) (fun hHeld => ?_)
          refine takeK 0 68 (v := ?_) rfl rfl (by kernel_rfl) (by kernel_rfl) (by kernel_rfl) (by kernel_rfl) (fun _ _ _ h => h) (by rfl) ?_ (by assumption) ?_
          rotate_left
          · (intro w hSw; go_simp; first | done | with_reducible rfl)
          simp only [List.setIfInBounds_toArray, List.set_cons_zero, List.set_cons_succ]
          refine takeK 1 69 (v := ?_) rfl rfl (by kernel_rfl) (by kernel_rfl) (by kernel_rfl) (by kernel_rfl) (fun _ _ _ h => h) (by rfl) ?_ (by assumption) ?_
          rotate_left
          · (intro w hSw; go_simp; first | done | with_reducible rfl)
          simp only [List.setIfInBounds_toArray, List.set_cons_zero, List.set_cons_succ]
          refine takeK 2 70 (v := ?_) rfl rfl (by kernel_rfl) (by kernel_rfl) (by kernel_rfl) (by kernel_rfl) (fun _ _ _ h => h) (by rfl) ?_ (by assumption) ?_
          rotate_left
          · (intro w hSw; go_simp; first | done | with_reducible rfl)
          simp only [List.setIfInBounds_toArray, List.set_cons_zero, List.set_cons_succ]
          refine takeK 3 71 (v := ?_) rfl rfl (by kernel_rfl) (by kernel_rfl) (by kernel_rfl) (by kernel_rfl) (fun _ _ _ h => h) (by rfl) ?_ (by assumption) ?_
          rotate_left
          · (intro w hSw; go_simp; first | done | with_reducible rfl)
          simp only [List.setIfInBounds_toArray, List.set_cons_zero, List.set_cons_succ]
          refine takeK 4 72 (v := ?_) rfl rfl (by kernel_rfl) (by kernel_rfl) (by kernel_rfl) (by kernel_rfl) (fun _ _ _ h => h) (by rfl) ?_ (by assumption) ?_
          rotate_left
          · (intro w hSw; go_simp; first | done | with_reducible rfl)
          simp only [List.setIfInBounds_toArray, List.set_cons_zero, List.set_cons_succ]
          refine takeK 5 73 (v := ?_) rfl rfl (by kernel_rfl) (by kernel_rfl) (by kernel_rfl) (by kernel_rfl) (fun _ _ _ h => h) (by rfl) ?_ (by assumption) ?_
          rotate_left
          · (intro w hSw; go_simp; first | done | with_reducible rfl)
          simp only [List.setIfInBounds_toArray, List.set_cons_zero, List.set_cons_succ]
          refine stepK 6 (by kernel_rfl) rfl (fun K hK => ?_)
          go_simp
          refine (equal_any _ _ _ w13.drew Hx.out Ha.out zero_lim (HP.out.below HB.out hg)).mono ?_
          rintro e w14 ⟨rfl, hB⟩
          have HR := Lib.hid (HR.out.below hB)
          have Hx := Lib.hid (Hx.out.below hB)
          have Ha := Lib.hid (Ha.out.below (Nat.le_refl _) hB)
          have Tx := Lib.hid (Tx.out.below hB Tx.out.lt)
          have Ta := Lib.hid (Ta.out.below hB Ta.out.lt)
          have HB := Lib.hid (HB.out.trans (hB.mono HB.out.size))
          have HBl := Lib.hid (HBl.out.trans (hB.mono HBl.out.size))
          clear hB
          go_wp2_with fail
          refine hK.out _ _ (⟨Tx.out.cell0, Tx.out.cell1, Ta.out.cell0, Ta.out.cell1⟩) (fun hHeld => ?_)
          clear hK K
          try simp only [Act.put, List.setIfInBounds_toArray, List.set_cons_zero, List.set_cons_succ]
          refine takeK 7 75 (v := ?_) rfl rfl (by kernel_rfl) (by kernel_rfl) (by kernel_rfl) (by kernel_rfl) (fun _ _ _ h => h) (by rfl) ?_ (by assumption) ?_
          rotate_left
          · (intro w hSw; go_simp; first | done | with_reducible rfl)
          simp only [List.setIfInBounds_toArray, List.set_cons_zero, List.set_cons_succ]
          refine takeK 8 76 (v := ?_) rfl rfl (by kernel_rfl) (by kernel_rfl) (by kernel_rfl) (by kernel_rfl) (fun _ _ _ h => h) (by rfl) ?_ (by assumption) ?_
          rotate_left
          · (intro w hSw; go_simp; first | done | with_reducible rfl)
          simp only [List.setIfInBounds_toArray, List.set_cons_zero, List.set_cons_succ]
          refine takeK 9 77 (v := ?_) rfl rfl (by kernel_rfl) (by kernel_rfl) (by kernel_rfl) (by kernel_rfl) (fun _ _ _ h => h) (by rfl) ?_ (by assumption) ?_
          rotate_left
          · (intro w hSw; go_simp; first | done | with_reducible rfl)
          simp only [List.setIfInBounds_toArray, List.set_cons_zero, List.set_cons_succ]
          refine takeK 10 78 (v := ?_) rfl rfl (by kernel_rfl) (by kernel_rfl) (by kernel_rfl) (by kernel_rfl) (fun _ _ _ h => h) (by rfl) ?_ (by assumption) ?_
          rotate_left
          · (intro w hSw; go_simp; first | done | with_reducible rfl)
          simp only [List.setIfInBounds_toArray, List.set_cons_zero, List.set_cons_succ]
          refine takeK 11 79 (v := ?_) rfl rfl (by kernel_rfl) (by kernel_rfl) (by kernel_rfl) (by kernel_rfl) (fun _ _ _ h => h) (by rfl) ?_ (by assumption) ?_
          rotate_left
          · (intro w hSw; go_simp; first | done | with_reducible rfl)
          simp only [List.setIfInBounds_toArray, List.set_cons_zero, List.set_cons_succ]
          refine takeK 12 80 (v := ?_) rfl rfl (by kernel_rfl) (by kernel_rfl) (by kernel_rfl) (by kernel_rfl) (fun _ _ _ h => h) (by rfl) ?_ (by assumption) ?_
          rotate_left
          · (intro w hSw; go_simp; first | done | with_reducible rfl)
          simp only [List.setIfInBounds_toArray, List.set_cons_zero, List.set_cons_succ]
          refine skipK 13 81 rfl rfl (by kernel_rfl) (by kernel_rfl) (by kernel_rfl) (by kernel_rfl) (fun _ _ _ h => h) (by rfl) (by assumption) ?_
          simp only [List.setIfInBounds_toArray, List.set_cons_zero, List.set_cons_succ]
          refine skipK 14 82 rfl rfl (by kernel_rfl) (by kernel_rfl) (by kernel_rfl) (by kernel_rfl) (fun _ _ _ h => h) (by rfl) (by assumption) ?_
          simp only [List.setIfInBounds_toArray, List.set_cons_zero, List.set_cons_succ]
          refine skipK 15 83 rfl rfl (by kernel_rfl) (by kernel_rfl) (by kernel_rfl) (by kernel_rfl) (fun _ _ _ h => h) (by rfl) (by assumption) ?_
          simp only [List.setIfInBounds_toArray, List.set_cons_zero, List.set_cons_succ]
          refine skipK 16 84 rfl rfl (by kernel_rfl) (by kernel_rfl) (by kernel_rfl) (by kernel_rfl) (fun _ _ _ h => h) (by rfl) (by assumption) ?_
          simp only [List.setIfInBounds_toArray, List.set_cons_zero, List.set_cons_succ]
          refine skipK 17 85 rfl rfl (by kernel_rfl) (by kernel_rfl) (by kernel_rfl) (by kernel_rfl) (fun _ _ _ h => h) (by rfl) (by assumption) ?_
          simp only [List.setIfInBounds_toArray, List.set_cons_zero, List.set_cons_succ]
          refine skipK 18 86 rfl rfl (by kernel_rfl) (by kernel_rfl) (by kernel_rfl) (by kernel_rfl) (fun _ _ _ h => h) (by rfl) (by assumption) ?_
          simp only [List.setIfInBounds_toArray, List.set_cons_zero, List.set_cons_succ]
          refine skipK 19 87 rfl rfl (by kernel_rfl) (by kernel_rfl) (by kernel_rfl) (by kernel_rfl) (fun _ _ _ h => h) (by rfl) (by assumption) ?_
          simp only [List.setIfInBounds_toArray, List.set_cons_zero, List.set_cons_succ]
          refine takeK 20 88 (v := ?_) rfl rfl (by kernel_rfl) (by kernel_rfl) (by kernel_rfl) (by kernel_rfl) (fun _ _ _ h => h) (by rfl) ?_ (by assumption) ?_
          rotate_left
          · (intro w hSw; go_simp; first | done | with_reducible rfl)
          simp only [List.setIfInBounds_toArray, List.set_cons_zero, List.set_cons_succ]
          refine takeK 21 89 (v := ?_) rfl rfl (by kernel_rfl) (by kernel_rfl) (by kernel_rfl) (by kernel_rfl) (fun _ _ _ h => h) (by rfl) ?_ (by assumption) ?_
          rotate_left
          · (intro w hSw; go_simp; first | done | with_reducible rfl)
          simp only [List.setIfInBounds_toArray, List.set_cons_zero, List.set_cons_succ]
          refine doneK (by kernel_rfl) ?_ _
          clear hHeld
          go_wp2_with fail
          go_roundw
          case rel => exact ⟨j + 1, by omega, by go_num, HBl⟩
          case measure => simp [intOf]; omega
        · skip
          have e0 := HR.out.2 j hjl
          rw [Huj.out] at e0
          unfold sv at e0
          go_wp2_with fail
          clear e0
          refine (parse_any u w9 (by omega)).mono ?_
          rintro e w10 ⟨hB, he⟩
          rw [hp] at he
          obtain ⟨vx, rfl, hx, -⟩ := he
          have HR := Lib.hid (HR.out.below hB)
          have HB := Lib.hid (HB.out.trans (hB.mono HB.out.size))
          have HBl := Lib.hid (HBl.out.trans (hB.mono HBl.out.size))
          have Hx := Lib.hid hx
          obtain ⟨s_x, a_x, n_x, c_x, rfl⟩ := hx.form2
          clear hB hx
          obtain ⟨w11, hw⟩ : ∃ w', (w10.alloc (.cells #[.bool s_x, .slice a_x n_x c_x] 33)) = w' := ⟨_, rfl⟩
          have hB : Below w10.heap.size w10 w11 := by rw [← hw]; exact (Below.refl _ _).alloc (Nat.le_refl _) _
          obtain ⟨b_x, hb_x⟩ : ∃ b, w10.heap.size = b := ⟨_, rfl⟩
          have Tx' : Hid (Two w11 b_x 33 (.bool s_x) (.slice a_x n_x c_x)) := Lib.hid (by rw [← hw, ← hb_x]; have h9 := (Two.new w10 33 (.bool s_x) (.slice a_x n_x c_x)); exact h9)
          have HR := Lib.hid (HR.out.below hB)
          have Hx := Lib.hid (Hx.out.below hB)
          have HB := Lib.hid (HB.out.trans (hB.mono HB.out.size))
          have HBl := Lib.hid (HBl.out.trans (hB.mono HBl.out.size))
          have Tx := Tx'
          clear hB Tx'
          have e0 := HR.out.2 j hjl
          rw [Huj.out] at e0
          unfold sv at e0
          go_wp2_with fail
          clear e0
          clear hw hb_x
          refine (rparse_any u w11 (by omega)).mono ?_
          rintro e w12 ⟨hB, he⟩
          rw [hp] at he
          obtain ⟨va2, rfl, ha, -⟩ := he
          have HR := Lib.hid (HR.out.below hB)
          have Hx := Lib.hid (Hx.out.below hB)
          have Tx := Lib.hid (Tx.out.below hB Tx.out.lt)
          have HB := Lib.hid (HB.out.trans (hB.mono HB.out.size))
          have HBl := Lib.hid (HBl.out.trans (hB.mono HBl.out.size))
          have Ha := Lib.hid ha
          obtain ⟨s_a, a_a, n_a, c_a, rfl⟩ := ha.form2
          clear hB ha
          obtain ⟨w13, hw⟩ : ∃ w', (w12.alloc (.cells #[.bool s_a, .slice a_a n_a c_a] 25)) = w' := ⟨_, rfl⟩
          have hB : Below w12.heap.size w12 w13 := by rw [← hw]; exact (Below.refl _ _).alloc (Nat.le_refl _) _
          obtain ⟨b_a, hb_a⟩ : ∃ b, w12.heap.size = b := ⟨_, rfl⟩
          have Ta' : Hid (Two w13 b_a 25 (.bool s_a) (.slice a_a n_a c_a)) := Lib.hid (by rw [← hw, ← hb_a]; have h9 := (Two.new w12 25 (.bool s_a) (.slice a_a n_a c_a)); exact h9)
          have HR := Lib.hid (HR.out.below hB)
          have Hx := Lib.hid (Hx.out.below hB)
          have Ha := Lib.hid (Ha.out.below (Nat.le_refl _) hB)
          have Tx := Lib.hid (Tx.out.below hB Tx.out.lt)
          have HB := Lib.hid (HB.out.trans (hB.mono HB.out.size))
          have HBl := Lib.hid (HBl.out.trans (hB.mono HBl.out.size))
          have Ta := Ta'
          clear hB Ta'
          go_wp2_with fail
          clear hw hb_a
          have Hsv : Hid (sv (decZ z) = .string ⟨u.toArray⟩) := Lib.hid (by rw [parse_round u z hp]; rfl)
          have hj0 : (0 : Int) ≤ (j : Int) := by omega
          have hj1 : (j : Int) < 5 := by omega
          have hB : Below w13.heap.size w13 w13.drew := ⟨rfl, rfl, rfl, Nat.le_refl _, fun _ _ => rfl⟩
          have HR := Lib.hid (HR.out.below hB)
          have Hx := Lib.hid (Hx.out.below hB)
          have Ha := Lib.hid (Ha.out.below (Nat.le_refl _) hB)
          have Tx := Lib.hid (Tx.out.below hB Tx.out.lt)
          have Ta := Lib.hid (Ta.out.below hB Ta.out.lt)
          have HB := Lib.hid (HB.out.trans (hB.mono HB.out.size))
          have HBl := Lib.hid (HBl.out.trans (hB.mono HBl.out.size))
          clear hB
          go_region_held3 (fun w' => w'.cell? ⟨b_x, 0, none⟩ = some (.bool s_x) ∧ w'.cell? ⟨b_x, 1, none⟩ = some (.slice a_x n_x c_x) ∧ w'.cell? ⟨b_a, 0, none⟩ = some (.bool s_a) ∧ w'.cell? ⟨b_a, 1, none⟩ = some (.slice a_a n_a c_a) ∧ w'.cell? ⟨g, j, none⟩ = some (.string ⟨u.toArray⟩))
            (first | (exact ⟨Tx.out.cell0, Tx.out.cell1, Ta.out.cell0, Ta.out.cell1, (by have h9 := HR.out.2 j hjl; rw [Huj.out] at h9; exact h9)⟩) | go_keep)
            (first
              | (go_at_call 18; (with_reducible refine (equal_any _ _ _ w13.drew Hx.out Ha.out hz (HP.out.below HB.out hg)).mono ?_); rintro e w14 ⟨rfl, hB⟩; have HR := Lib.hid (HR.out.below hB); have Hx := Lib.hid (Hx.out.below hB); have Ha := Lib.hid (Ha.out.below (Nat.le_refl _) hB); have Tx := Lib.hid (Tx.out.below hB Tx.out.lt); have Ta := Lib.hid (Ta.out.below hB Ta.out.lt); have HB := Lib.hid (HB.out.trans (hB.mono HB.out.size)); have HBl := Lib.hid (HBl.out.trans (hB.mono HBl.out.size)); clear hB )
              | (go_at_call 19; (with_reducible refine (string_any _ z w14 Hx.out hz (HP.out.below HB.out hg)).mono ?_); rintro e w15 ⟨rfl, hB⟩; rw [Hsv.out]; have HR := Lib.hid (HR.out.below hB); have Hx := Lib.hid (Hx.out.below hB); have Ha := Lib.hid (Ha.out.below (Nat.le_refl _) hB); have Tx := Lib.hid (Tx.out.below hB Tx.out.lt); have Ta := Lib.hid (Ta.out.below hB Ta.out.lt); have HB := Lib.hid (HB.out.trans (hB.mono HB.out.size)); have HBl := Lib.hid (HBl.out.trans (hB.mono HBl.out.size)); clear hB ))
          go_wp2_with fail
          go_roundw
          case rel => exact ⟨j + 1, by omega, by go_num, HBl⟩
          case measure => simp [intOf]; omega
      · skip
        have hge : 5 ≤ j := by omega
        go_wp2_with fail
        refine (lives_any w9 (HP.out.below HB.out hg)).mono ?_
        rintro e w10 ⟨rfl, hB⟩
        have HB := Lib.hid (HB.out.trans (hB.mono HB.out.size))
        clear hB 
        go_wp2
        go_ret
        exact ⟨rfl, HB.out⟩
  · skip
    go_simp
    refine hK.out _ _ trivial (fun hHeld => ?_)
    clear hK K
    try simp only [Act.put, List.setIfInBounds_toArray, List.set_cons_zero, List.set_cons_succ]
    refine strongK (S' := fun w' => w'.cell? ⟨w2.heap.size, 0, none⟩ = some (.int .u8 b)) (fun _ _ => trivial) (by simp) (fun hHeld => ?_)
    refine takeK 8 32 (v := ?_) rfl rfl (by kernel_rfl) (by kernel_rfl) (by kernel_rfl) (by kernel_rfl) (fun _ _ _ h => h) (by rfl) ?_ (by assumption) ?_
    rotate_left
    · (intro w hSw; have hcv := conv_one w w2.heap.size b hSw; go_simp; first | done | with_reducible rfl)
    simp only [List.setIfInBounds_toArray, List.set_cons_zero, List.set_cons_succ]
    refine takeK 9 33 (v := ?_) rfl rfl (by kernel_rfl) (by kernel_rfl) (by kernel_rfl) (by kernel_rfl) (fun _ _ _ h => h) (by rfl) ?_ (by assumption) ?_
    rotate_left
    · (intro w hSw; go_simp; first | done | with_reducible rfl)
    simp only [List.setIfInBounds_toArray, List.set_cons_zero, List.set_cons_succ]
    refine takeK 14 38 (v := ?_) rfl rfl (by kernel_rfl) (by kernel_rfl) (by kernel_rfl) (by kernel_rfl) (fun _ _ _ h => h) (by rfl) ?_ (by assumption) ?_
    rotate_left
    · (intro w hSw; go_simp; first | done | with_reducible rfl)
    simp only [List.setIfInBounds_toArray, List.set_cons_zero, List.set_cons_succ]
    refine stepK 1 (by kernel_rfl) rfl (fun K hK => ?_)
    go_simp
    refine (Hsh.out _).mono ?_
    rintro e w_s ⟨rfl, rfl⟩
    go_wp2_with fail
    refine hK.out _ _ hHeld (fun hHeld => ?_)
    clear hK K
    try simp only [Act.put, List.setIfInBounds_toArray, List.set_cons_zero, List.set_cons_succ]
    refine stepK 21 (by kernel_rfl) rfl (fun K hK => ?_)
    go_simp
    refine hK.out _ _ (by simp) (fun hHeld => ?_)
    clear hK K
    try simp only [Act.put, List.setIfInBounds_toArray, List.set_cons_zero, List.set_cons_succ]
    refine takeK 22 11 (v := ?_) rfl rfl (by kernel_rfl) (by kernel_rfl) (by kernel_rfl) (by kernel_rfl) (fun _ _ _ h => h) (by rfl) ?_ (by assumption) ?_
    rotate_left
    · (intro w hSw; go_simp; first | done | with_reducible rfl)
    simp only [List.setIfInBounds_toArray, List.set_cons_zero, List.set_cons_succ]
    refine doneK (by kernel_rfl) ?_ _
    clear hHeld
    go_wp2_with fail
    clear l2 l3 hA hBb hb1 Hsh HS
    rw [ba_one, ba_app, ba_app, ba_app]
    have HTl : Hid (∀ u ∈ [S, t, A ++ [UInt8.ofNat b.toNat] ++ B, A, t ++ t], u.length ≤ 20000) := Lib.hid (by intro u hu; simp only [List.mem_cons, List.not_mem_nil, or_false] at hu; rcases hu with rfl | rfl | rfl | rfl | rfl <;> (try simp only [List.length_append, List.length_singleton]) <;> omega)
    generalize A ++ [UInt8.ofNat b.toNat] ++ B = Y at *
    generalize A ++ [UInt8.ofNat b.toNat] = X at *
    generalize t ++ t = TT at *
    obtain ⟨W, hW⟩ : ∃ W, ((w2.alloc (.cells #[.int .u8 b] 5)).alloc (.cells #[.string ⟨S.toArray⟩, .string ⟨t.toArray⟩, .string ⟨Y.toArray⟩, .string ⟨A.toArray⟩, .string ⟨TT.toArray⟩] 9)).drew = W := ⟨_, rfl⟩
    have HBW : Hid (Below w0.heap.size w0 W) := Lib.hid (by rw [← hW]; exact ((HB.out.alloc HB.out.size _).alloc (by have := HB.out.size; simp; omega) _).drew)
    have HSR : Hid (SRow W (w2.heap.size + 1) [S, t, Y, A, TT]) := Lib.hid (by rw [← hW]; exact SRow.five _ _ _ _ _ _ _ (by simp))
    obtain ⟨g, hgg⟩ : ∃ g, w2.heap.size + 1 = g := ⟨_, rfl⟩
    rw [hgg] at HSR
    rw [hW, hgg]
    clear hW hgg HB
    obtain ⟨T, hT⟩ : ∃ T, [S, t, Y, A, TT] = T := ⟨_, rfl⟩
    have hTl : T.length = 5 := by rw [← hT]; rfl
    rw [hT] at HSR HTl
    clear hT hSl hBl hAl2 hkt htp htl
    go_loopw [12] (fun i wr => ∃ (j : Nat), j ≤ 5 ∧ i = .int .i64 j ∧ Hid (Below W.heap.size W wr)) (fun i _ => 5 - (intOf i).toNat)
    case atStart => exact ⟨0, by omega, rfl, Lib.hid (Below.refl _ _)⟩
    case round =>
      obtain ⟨j, hj, rfl, hBl⟩ := hrel
      obtain ⟨w9, rfl⟩ : ∃ w' : World, w' = wr := ⟨_, rfl⟩
      have HB := Lib.hid (HBW.out.trans (hBl.out.mono HBW.out.size))
      have HBl := hBl
      clear hBl
      by_cases hlt : j < 5
      · skip
        have HR := Lib.hid (HSR.out.below HBl.out)
        have hjl : j < T.length := by omega
        obtain ⟨u, hu⟩ : ∃ u, T[j] = u := ⟨_, rfl⟩
        have hul : u.length ≤ 20000 := HTl.out u (by rw [← hu]; exact List.getElem_mem _)
        have Huj := Lib.hid hu
        clear hu
        have Hpc := parse_cases u
        rcases Hpc with hp | hp | ⟨z, hp, hz⟩
        · skip
          have e0 := HR.out.2 j hjl
          rw [Huj.out] at e0
          unfold sv at e0
          go_wp2_with fail
          clear e0
          refine (parse_any u w9 (by omega)).mono ?_
          rintro e w10 ⟨hB, he⟩
          rw [hp] at he
          obtain rfl := he
          obtain ⟨vx, hvx⟩ : ∃ v, (Value.agg #[.bool false, .slice none 0 0]) = v := ⟨_, rfl⟩
          have hx : WInt w10 vx 0 := by rw [← hvx]; exact wint_zero _
          rw [hvx]
          clear hvx
          have HR := Lib.hid (HR.out.below hB)
          have HB := Lib.hid (HB.out.trans (hB.mono HB.out.size))
          have HBl := Lib.hid (HBl.out.trans (hB.mono HBl.out.size))
          have Hx := Lib.hid hx
          obtain ⟨s_x, a_x, n_x, c_x, rfl⟩ := hx.form2
          clear hB hx
          obtain ⟨w11, hw⟩ : ∃ w', (w10.alloc (.cells #[.bool s_x, .slice a_x n_x c_x] 33)) = w' := ⟨_, rfl⟩
          have hB : Below w10.heap.size w10 w11 := by rw [← hw]; exact (Below.refl _ _).alloc (Nat.le_refl _) _
          obtain ⟨b_x, hb_x⟩ : ∃ b, w10.heap.size = b := ⟨_, rfl⟩
          have Tx' : Hid (Two w11 b_x 33 (.bool s_x) (.slice a_x n_x c_x)) := Lib.hid (by rw [← hw, ← hb_x]; have h9 := (Two.new w10 33 (.bool s_x) (.slice a_x n_x c_x)); exact h9)
          have HR := Lib.hid (HR.out.below hB)
          have Hx := Lib.hid (Hx.out.below hB)
          have HB := Lib.hid (HB.out.trans (hB.mono HB.out.size))
          have HBl := Lib.hid (HBl.out.trans (hB.mono HBl.out.size))
          have Tx := Tx'
          clear hB Tx'
          have e0 := HR.out.2 j hjl
          rw [Huj.out] at e0
          unfold sv at e0
          go_wp2_with fail
          clear e0
          clear hw hb_x
          refine (rparse_any u w11 (by omega)).mono ?_
          rintro e w12 ⟨hB, he⟩
          rw [hp] at he
          obtain rfl := he
          obtain ⟨va, hva⟩ : ∃ v, (Value.agg #[.bool false, .slice none 0 0]) = v := ⟨_, rfl⟩
          have ha : RInt w12 va 0 := by rw [← hva]; exact rint_zero _
          rw [hva]
          clear hva
          have HR := Lib.hid (HR.out.below hB)
          have Hx := Lib.hid (Hx.out.below hB)
          have Tx := Lib.hid (Tx.out.below hB Tx.out.lt)
          have HB := Lib.hid (HB.out.trans (hB.mono HB.out.size))
          have HBl := Lib.hid (HBl.out.trans (hB.mono HBl.out.size))
          have Ha := Lib.hid ha
          obtain ⟨s_a, a_a, n_a, c_a, rfl⟩ := ha.form2
          clear hB ha
          obtain ⟨w13, hw⟩ : ∃ w', (w12.alloc (.cells #[.bool s_a, .slice a_a n_a c_a] 25)) = w' := ⟨_, rfl⟩
          have hB : Below w12.heap.size w12 w13 := by rw [← hw]; exact (Below.refl _ _).alloc (Nat.le_refl _) _
          obtain ⟨b_a, hb_a⟩ : ∃ b, w12.heap.size = b := ⟨_, rfl⟩
          have Ta' : Hid (Two w13 b_a 25 (.bool s_a) (.slice a_a n_a c_a)) := Lib.hid (by rw [← hw, ← hb_a]; have h9 := (Two.new w12 25 (.bool s_a) (.slice a_a n_a c_a)); exact h9)
          have HR := Lib.hid (HR.out.below hB)
          have Hx := Lib.hid (Hx.out.below hB)
          have Ha := Lib.hid (Ha.out.below (Nat.le_refl _) hB)
          have Tx := Lib.hid (Tx.out.below hB Tx.out.lt)
          have HB := Lib.hid (HB.out.trans (hB.mono HB.out.size))
          have HBl := Lib.hid (HBl.out.trans (hB.mono HBl.out.size))
          have Ta := Ta'
          clear hB Ta'
          go_wp2_with fail
          clear hw hb_a
          have hj0 : (0 : Int) ≤ (j : Int) := by omega
          have hj1 : (j : Int) < 5 := by omega
          have hB : Below w13.heap.size w13 w13.drew := ⟨rfl, rfl, rfl, Nat.le_refl _, fun _ _ => rfl⟩
          have HR := Lib.hid (HR.out.below hB)
          have Hx := Lib.hid (Hx.out.below hB)
          have Ha := Lib.hid (Ha.out.below (Nat.le_refl _) hB)
          have Tx := Lib.hid (Tx.out.below hB Tx.out.lt)
          have Ta := Lib.hid (Ta.out.below hB Ta.out.lt)
          have HB := Lib.hid (HB.out.trans (hB.mono HB.out.size))
          have HBl := Lib.hid (HBl.out.trans (hB.mono HBl.out.size))
          clear hB
          refine startK 99 (fun w' => w'.cell? ⟨b_x, 0, none⟩ = some (.bool s_x) ∧ w'.cell? ⟨b_x, 1, none⟩ = some (.slice a_x n_x c_x) ∧ w'.cell? ⟨b_a, 0, none⟩ = some (.bool s_a) ∧ w'.cell? ⟨b_a, 1, none⟩ = some (.slice a_a n_a c_a)) (by kernel_rfl) (⟨Tx.out.cell0, Tx.out.cell1, Ta.out.cell0, Ta.out.cell1⟩) (fun hHeld => ?_)
          refine takeK 0 68 (v := ?_) rfl rfl (by kernel_rfl) (by kernel_rfl) (by kernel_rfl) (by kernel_rfl) (fun _ _ _ h => h) (by rfl) ?_ (by assumption) ?_
          rotate_left
          · (intro w hSw; go_simp; first | done | with_reducible rfl)
          simp only [List.setIfInBounds_toArray, List.set_cons_zero, List.set_cons_succ]
          refine takeK 1 69 (v := ?_) rfl rfl (by kernel_rfl) (by kernel_rfl) (by kernel_rfl) (by kernel_rfl) (fun _ _ _ h => h) (by rfl) ?_ (by assumption) ?_
          rotate_left
          · (intro w hSw; go_simp; first | done | with_reducible rfl)
          simp only [List.setIfInBounds_toArray, List.set_cons_zero, List.set_cons_succ]
          refine takeK 2 70 (v := ?_) rfl rfl (by kernel_rfl) (by kernel_rfl) (by kernel_rfl) (by kernel_rfl) (fun _ _ _ h => h) (by rfl) ?_ (by assumption) ?_
          rotate_left
          · (intro w hSw; go_simp; first | done | with_reducible rfl)
          simp only [List.setIfInBounds_toArray, List.set_cons_zero, List.set_cons_succ]
          refine takeK 3 71 (v := ?_) rfl rfl (by kernel_rfl) (by kernel_rfl) (by kernel_rfl) (by kernel_rfl) (fun _ _ _ h => h) (by rfl) ?_ (by assumption) ?_
          rotate_left
          · (intro w hSw; go_simp; first | done | with_reducible rfl)
          simp only [List.setIfInBounds_toArray, List.set_cons_zero, List.set_cons_succ]
          refine takeK 4 72 (v := ?_) rfl rfl (by kernel_rfl) (by kernel_rfl) (by kernel_rfl) (by kernel_rfl) (fun _ _ _ h => h) (by rfl) ?_ (by assumption) ?_
          rotate_left
          · (intro w hSw; go_simp; first | done | with_reducible rfl)
          simp only [List.setIfInBounds_toArray, List.set_cons_zero, List.set_cons_succ]
          refine takeK 5 73 (v := ?_) rfl rfl (by kernel_rfl) (by kernel_rfl) (by kernel_rfl) (by kernel_rfl) (fun _ _ _ h => h) (by rfl) ?_ (by assumption) ?_
          rotate_left
          · (intro w hSw; go_simp; first | done | with_reducible rfl)
          simp only [List.setIfInBounds_toArray, List.set_cons_zero, List.set_cons_succ]
          refine stepK 6 (by kernel_rfl) rfl (fun K hK => ?_)
          go_simp
          refine (equal_any _ _ _ w13.drew Hx.out Ha.out zero_lim (HP.out.below HB.out hg)).mono ?_
          rintro e w14 ⟨rfl, hB⟩
          have HR := Lib.hid (HR.out.below hB)
          have Hx := Lib.hid (Hx.out.below hB)
          have Ha := Lib.hid (Ha.out.below (Nat.le_refl _) hB)
          have Tx := Lib.hid (Tx.out.below hB Tx.out.lt)
          have Ta := Lib.hid (Ta.out.below hB Ta.out.lt)
          have HB := Lib.hid (HB.out.trans (hB.mono HB.out.size))
          have HBl := Lib.hid (HBl.out.trans (hB.mono HBl.out.size))
          clear hB
          go_wp2_with fail
          refine hK.out _ _ (⟨Tx.out.cell0, Tx.out.cell1, Ta.out.cell0, Ta.out.cell1⟩) (fun hHeld => ?_)
          clear hK K
          try simp only [Act.put, List.setIfInBounds_toArray, List.set_cons_zero, List.set_cons_succ]
          refine takeK 7 75 (v := ?_) rfl rfl (by kernel_rfl) (by kernel_rfl) (by kernel_rfl) (by kernel_rfl) (fun _ _ _ h => h) (by rfl) ?_ (by assumption) ?_
          rotate_left
          · (intro w hSw; go_simp; first | done | with_reducible rfl)
          simp only [List.setIfInBounds_toArray, List.set_cons_zero, List.set_cons_succ]
          refine takeK 8 76 (v := ?_) rfl rfl (by kernel_rfl) (by kernel_rfl) (by kernel_rfl) (by kernel_rfl) (fun _ _ _ h => h) (by rfl) ?_ (by assumption) ?_
          rotate_left
          · (intro w hSw; go_simp; first | done | with_reducible rfl)
          simp only [List.setIfInBounds_toArray, List.set_cons_zero, List.set_cons_succ]
          refine takeK 9 77 (v := ?_) rfl rfl (by kernel_rfl) (by kernel_rfl) (by kernel_rfl) (by kernel_rfl) (fun _ _ _ h => h) (by rfl) ?_ (by assumption) ?_
          rotate_left
          · (intro w hSw; go_simp; first | done | with_reducible rfl)
          simp only [List.setIfInBounds_toArray, List.set_cons_zero, List.set_cons_succ]
          refine takeK 10 78 (v := ?_) rfl rfl (by kernel_rfl) (by kernel_rfl) (by kernel_rfl) (by kernel_rfl) (fun _ _ _ h => h) (by rfl) ?_ (by assumption) ?_
          rotate_left
          · (intro w hSw; go_simp; first | done | with_reducible rfl)
          simp only [List.setIfInBounds_toArray, List.set_cons_zero, List.set_cons_succ]
          refine takeK 11 79 (v := ?_) rfl rfl (by kernel_rfl) (by kernel_rfl) (by kernel_rfl) (by kernel_rfl) (fun _ _ _ h => h) (by rfl) ?_ (by assumption) ?_
          rotate_left
          · (intro w hSw; go_simp; first | done | with_reducible rfl)
          simp only [List.setIfInBounds_toArray, List.set_cons_zero, List.set_cons_succ]
          refine takeK 12 80 (v := ?_) rfl rfl (by kernel_rfl) (by kernel_rfl) (by kernel_rfl) (by kernel_rfl) (fun _ _ _ h => h) (by rfl) ?_ (by assumption) ?_
          rotate_left
          · (intro w hSw; go_simp; first | done | with_reducible rfl)
          simp only [List.setIfInBounds_toArray, List.set_cons_zero, List.set_cons_succ]
          refine skipK 13 81 rfl rfl (by kernel_rfl) (by kernel_rfl) (by kernel_rfl) (by kernel_rfl) (fun _ _ _ h => h) (by rfl) (by assumption) ?_
          simp only [List.setIfInBounds_toArray, List.set_cons_zero, List.set_cons_succ]
          refine skipK 14 82 rfl rfl (by kernel_rfl) (by kernel_rfl) (by kernel_rfl) (by kernel_rfl) (fun _ _ _ h => h) (by rfl) (by assumption) ?_
          simp only [List.setIfInBounds_toArray, List.set_cons_zero, List.set_cons_succ]
          refine skipK 15 83 rfl rfl (by kernel_rfl) (by kernel_rfl) (by kernel_rfl) (by kernel_rfl) (fun _ _ _ h => h) (by rfl) (by assumption) ?_
          simp only [List.setIfInBounds_toArray, List.set_cons_zero, List.set_cons_succ]
          refine skipK 16 84 rfl rfl (by kernel_rfl) (by kernel_rfl) (by kernel_rfl) (by kernel_rfl) (fun _ _ _ h => h) (by rfl) (by assumption) ?_
          simp only [List.setIfInBounds_toArray, List.set_cons_zero, List.set_cons_succ]
          refine skipK 17 85 rfl rfl (by kernel_rfl) (by kernel_rfl) (by kernel_rfl) (by kernel_rfl) (fun _ _ _ h => h) (by rfl) (by assumption) ?_
          simp only [List.setIfInBounds_toArray, List.set_cons_zero, List.set_cons_succ]
          refine skipK 18 86 rfl rfl (by kernel_rfl) (by kernel_rfl) (by kernel_rfl) (by kernel_rfl) (fun _ _ _ h => h) (by rfl) (by assumption) ?_
          simp only [List.setIfInBounds_toArray, List.set_cons_zero, List.set_cons_succ]
          refine skipK 19 87 rfl rfl (by kernel_rfl) (by kernel_rfl) (by kernel_rfl) (by kernel_rfl) (fun _ _ _ h => h) (by rfl) (by assumption) ?_
          simp only [List.setIfInBounds_toArray, List.set_cons_zero, List.set_cons_succ]
          refine takeK 20 88 (v := ?_) rfl rfl (by kernel_rfl) (by kernel_rfl) (by kernel_rfl) (by kernel_rfl) (fun _ _ _ h => h) (by rfl) ?_ (by assumption) ?_
          rotate_left
          · (intro w hSw; go_simp; first | done | with_reducible rfl)
          simp only [List.setIfInBounds_toArray, List.set_cons_zero, List.set_cons_succ]
          refine takeK 21 89 (v := ?_) rfl rfl (by kernel_rfl) (by kernel_rfl) (by kernel_rfl) (by kernel_rfl) (fun _ _ _ h => h) (by rfl) ?_ (by assumption) ?_
          rotate_left
          · (intro w hSw; go_simp; first | done | with_reducible rfl)
          simp only [List.setIfInBounds_toArray, List.set_cons_zero, List.set_cons_succ]
          refine doneK (by kernel_rfl) ?_ _
          clear hHeld
          go_wp2_with fail
          go_roundw
          case rel => exact ⟨j + 1, by omega, by go_num, HBl⟩
          case measure => simp [intOf]; omega
        · skip
          have e0 := HR.out.2 j hjl
          rw [Huj.out] at e0
          unfold sv at e0
          go_wp2_with fail
          clear e0
          refine (parse_any u w9 (by omega)).mono ?_
          rintro e w10 ⟨hB, he⟩
          rw [hp] at he
          obtain rfl := he
          obtain ⟨vx, hvx⟩ : ∃ v, (Value.agg #[.bool false, .slice none 0 0]) = v := ⟨_, rfl⟩
          have hx : WInt w10 vx 0 := by rw [← hvx]; exact wint_zero _
          rw [hvx]
          clear hvx
          have HR := Lib.hid (HR.out.below hB)
          have HB := Lib.hid (HB.out.trans (hB.mono HB.out.size))
          have HBl := Lib.hid (HBl.out.trans (hB.mono HBl.out.size))
          have Hx := Lib.hid hx
          obtain ⟨s_x, a_x, n_x, c_x, rfl⟩ := hx.form2
          clear hB hx
          obtain ⟨w11, hw⟩ : ∃ w', (w10.alloc (.cells #[.bool s_x, .slice a_x n_x c_x] 33)) = w' := ⟨_, rfl⟩
          have hB : Below w10.heap.size w10 w11 := by rw [← hw]; exact (Below.refl _ _).alloc (Nat.le_refl _) _
          obtain ⟨b_x, hb_x⟩ : ∃ b, w10.heap.size = b := ⟨_, rfl⟩
          have Tx' : Hid (Two w11 b_x 33 (.bool s_x) (.slice a_x n_x c_x)) := Lib.hid (by rw [← hw, ← hb_x]; have h9 := (Two.new w10 33 (.bool s_x) (.slice a_x n_x c_x)); exact h9)
          have HR := Lib.hid (HR.out.below hB)
          have Hx := Lib.hid (Hx.out.below hB)
          have HB := Lib.hid (HB.out.trans (hB.mono HB.out.size))
          have HBl := Lib.hid (HBl.out.trans (hB.mono HBl.out.size))
          have Tx := Tx'
          clear hB Tx'
          have e0 := HR.out.2 j hjl
          rw [Huj.out] at e0
          unfold sv at e0
          go_wp2_with fail
          clear e0
          clear hw hb_x
          refine (rparse_any u w11 (by omega)).mono ?_
          rintro e w12 ⟨hB, he⟩
          rw [hp] at he
          obtain rfl := he
          obtain ⟨va, hva⟩ : ∃ v, (Value.agg #[.bool false, .slice none 0 0]) = v := ⟨_, rfl⟩
          have ha : RInt w12 va 0 := by rw [← hva]; exact rint_zero _
          rw [hva]
          clear hva
          have HR := Lib.hid (HR.out.below hB)
          have Hx := Lib.hid (Hx.out.below hB)
          have Tx := Lib.hid (Tx.out.below hB Tx.out.lt)
          have HB := Lib.hid (HB.out.trans (hB.mono HB.out.size))
          have HBl := Lib.hid (HBl.out.trans (hB.mono HBl.out.size))
          have Ha := Lib.hid ha
          obtain ⟨s_a, a_a, n_a, c_a, rfl⟩ := ha.form2
          clear hB ha
          obtain ⟨w13, hw⟩ : ∃ w', (w12.alloc (.cells #[.bool s_a, .slice a_a n_a c_a] 25)) = w' := ⟨_, rfl⟩
          have hB : Below w12.heap.size w12 w13 := by rw [← hw]; exact (Below.refl _ _).alloc (Nat.le_refl _) _
          obtain ⟨b_a, hb_a⟩ : ∃ b, w12.heap.size = b := ⟨_, rfl⟩
          have Ta' : Hid (Two w13 b_a 25 (.bool s_a) (.slice a_a n_a c_a)) := Lib.hid (by rw [← hw, ← hb_a]; have h9 := (Two.new w12 25 (.bool s_a) (.slice a_a n_a c_a)); exact h9)
          have HR := Lib.hid (HR.out.below hB)
          have Hx := Lib.hid (Hx.out.below hB)
          have Ha := Lib.hid (Ha.out.below (Nat.le_refl _) hB)
          have Tx := Lib.hid (Tx.out.below hB Tx.out.lt)
          have HB := Lib.hid (HB.out.trans (hB.mono HB.out.size))
          have HBl := Lib.hid (HBl.out.trans (hB.mono HBl.out.size))
          have Ta := Ta'
          clear hB Ta'
          go_wp2_with fail
          clear hw hb_a
          have hj0 : (0 : Int) ≤ (j : Int) := by omega
          have hj1 : (j : Int) < 5 := by omega
          have hB : Below w13.heap.size w13 w13.drew := ⟨rfl, rfl, rfl, Nat.le_refl _, fun _ _ => rfl⟩
          have HR := Lib.hid (HR.out.below hB)
          have Hx := Lib.hid (Hx.out.below hB)
          have Ha := Lib.hid (Ha.out.below (Nat.le_refl _) hB)
          have Tx := Lib.hid (Tx.out.below hB Tx.out.lt)
          have Ta := Lib.hid (Ta.out.below hB Ta.out.lt)
          have HB := Lib.hid (HB.out.trans (hB.mono HB.out.size))
          have HBl := Lib.hid (HBl.out.trans (hB.mono HBl.out.size))
          clear hB
          refine startK 99 (fun w' => w'.cell? ⟨b_x, 0, none⟩ = some (.bool s_x) ∧ w'.cell? ⟨b_x, 1, none⟩ = some (.slice a_x n_x c_x) ∧ w'.cell? ⟨b_a, 0, none⟩ = some (.bool s_a) ∧ w'.cell? ⟨b_a, 1, none⟩ = some (.slice a_a n_a c_a)) (by kernel_rfl) (⟨Tx.out.cell0, Tx.out.cell1, Ta.out.cell0, Ta.out.cell1⟩) (fun hHeld => ?_)
          refine takeK 0 68 (v := ?_) rfl rfl (by kernel_rfl) (by kernel_rfl) (by kernel_rfl) (by kernel_rfl) (fun _ _ _ h => h) (by rfl) ?_ (by assumption) ?_
          rotate_left
          · (intro w hSw; go_simp; first | done | with_reducible rfl)
          simp only [List.setIfInBounds_toArray, List.set_cons_zero, List.set_cons_succ]
          refine takeK 1 69 (v := ?_) rfl rfl (by kernel_rfl) (by kernel_rfl) (by kernel_rfl) (by kernel_rfl) (fun _ _ _ h => h) (by rfl) ?_ (by assumption) ?_
          rotate_left
          · (intro w hSw; go_simp; first | done | with_reducible rfl)
          simp only [List.setIfInBounds_toArray, List.set_cons_zero, List.set_cons_succ]
          refine takeK 2 70 (v := ?_) rfl rfl (by kernel_rfl) (by kernel_rfl) (by kernel_rfl) (by kernel_rfl) (fun _ _ _ h => h) (by rfl) ?_ (by assumption) ?_
          rotate_left
          · (intro w hSw; go_simp; first | done | with_reducible rfl)
          simp only [List.setIfInBounds_toArray, List.set_cons_zero, List.set_cons_succ]
          refine takeK 3 71 (v := ?_) rfl rfl (by kernel_rfl) (by kernel_rfl) (by kernel_rfl) (by kernel_rfl) (fun _ _ _ h => h) (by rfl) ?_ (by assumption) ?_
          rotate_left
          · (intro w hSw; go_simp; first | done | with_reducible rfl)
          simp only [List.setIfInBounds_toArray, List.set_cons_zero, List.set_cons_succ]
          refine takeK 4 72 (v := ?_) rfl rfl (by kernel_rfl) (by kernel_rfl) (by kernel_rfl) (by kernel_rfl) (fun _ _ _ h => h) (by rfl) ?_ (by assumption) ?_
          rotate_left
          · (intro w hSw; go_simp; first | done | with_reducible rfl)
          simp only [List.setIfInBounds_toArray, List.set_cons_zero, List.set_cons_succ]
          refine takeK 5 73 (v := ?_) rfl rfl (by kernel_rfl) (by kernel_rfl) (by kernel_rfl) (by kernel_rfl) (fun _ _ _ h => h) (by rfl) ?_ (by assumption) ?_
          rotate_left
          · (intro w hSw; go_simp; first | done | with_reducible rfl)
          simp only [List.setIfInBounds_toArray, List.set_cons_zero, List.set_cons_succ]
          refine stepK 6 (by kernel_rfl) rfl (fun K hK => ?_)
          go_simp
          refine (equal_any _ _ _ w13.drew Hx.out Ha.out zero_lim (HP.out.below HB.out hg)).mono ?_
          rintro e w14 ⟨rfl, hB⟩
          have HR := Lib.hid (HR.out.below hB)
          have Hx := Lib.hid (Hx.out.below hB)
          have Ha := Lib.hid (Ha.out.below (Nat.le_refl _) hB)
          have Tx := Lib.hid (Tx.out.below hB Tx.out.lt)
          have Ta := Lib.hid (Ta.out.below hB Ta.out.lt)
          have HB := Lib.hid (HB.out.trans (hB.mono HB.out.size))
          have HBl := Lib.hid (HBl.out.trans (hB.mono HBl.out.size))
          clear hB
          go_wp2_with fail
          refine hK.out _ _ (⟨Tx.out.cell0, Tx.out.cell1, Ta.out.cell0, Ta.out.cell1⟩) (fun hHeld => ?_)
          clear hK K
          try simp only [Act.put, List.setIfInBounds_toArray, List.set_cons_zero, List.set_cons_succ]
          refine takeK 7 75 (v := ?_) rfl rfl (by kernel_rfl) (by kernel_rfl) (by kernel_rfl) (by kernel_rfl) (fun _ _ _ h => h) (by rfl) ?_ (by assumption) ?_
          rotate_left
          · (intro w hSw; go_simp; first | done | with_reducible rfl)
          simp only [List.setIfInBounds_toArray, List.set_cons_zero, List.set_cons_succ]
          refine takeK 8 76 (v := ?_) rfl rfl (by kernel_rfl) (by kernel_rfl) (by kernel_rfl) (by kernel_rfl) (fun _ _ _ h => h) (by rfl) ?_ (by assumption) ?_
          rotate_left
          · (intro w hSw; go_simp; first | done | with_reducible rfl)
          simp only [List.setIfInBounds_toArray, List.set_cons_zero, List.set_cons_succ]
          refine takeK 9 77 (v := ?_) rfl rfl (by kernel_rfl) (by kernel_rfl) (by kernel_rfl) (by kernel_rfl) (fun _ _ _ h => h) (by rfl) ?_ (by assumption) ?_
          rotate_left
          · (intro w hSw; go_simp; first | done | with_reducible rfl)
          simp only [List.setIfInBounds_toArray, List.set_cons_zero, List.set_cons_succ]
          refine takeK 10 78 (v := ?_) rfl rfl (by kernel_rfl) (by kernel_rfl) (by kernel_rfl) (by kernel_rfl) (fun _ _ _ h => h) (by rfl) ?_ (by assumption) ?_
          rotate_left
          · (intro w hSw; go_simp; first | done | with_reducible rfl)
          simp only [List.setIfInBounds_toArray, List.set_cons_zero, List.set_cons_succ]
          refine takeK 11 79 (v := ?_) rfl rfl (by kernel_rfl) (by kernel_rfl) (by kernel_rfl) (by kernel_rfl) (fun _ _ _ h => h) (by rfl) ?_ (by assumption) ?_
          rotate_left
          · (intro w hSw; go_simp; first | done | with_reducible rfl)
          simp only [List.setIfInBounds_toArray, List.set_cons_zero, List.set_cons_succ]
          refine takeK 12 80 (v := ?_) rfl rfl (by kernel_rfl) (by kernel_rfl) (by kernel_rfl) (by kernel_rfl) (fun _ _ _ h => h) (by rfl) ?_ (by assumption) ?_
          rotate_left
          · (intro w hSw; go_simp; first | done | with_reducible rfl)
          simp only [List.setIfInBounds_toArray, List.set_cons_zero, List.set_cons_succ]
          refine skipK 13 81 rfl rfl (by kernel_rfl) (by kernel_rfl) (by kernel_rfl) (by kernel_rfl) (fun _ _ _ h => h) (by rfl) (by assumption) ?_
          simp only [List.setIfInBounds_toArray, List.set_cons_zero, List.set_cons_succ]
          refine skipK 14 82 rfl rfl (by kernel_rfl) (by kernel_rfl) (by kernel_rfl) (by kernel_rfl) (fun _ _ _ h => h) (by rfl) (by assumption) ?_
          simp only [List.setIfInBounds_toArray, List.set_cons_zero, List.set_cons_succ]
          refine skipK 15 83 rfl rfl (by kernel_rfl) (by kernel_rfl) (by kernel_rfl) (by kernel_rfl) (fun _ _ _ h => h) (by rfl) (by assumption) ?_
          simp only [List.setIfInBounds_toArray, List.set_cons_zero, List.set_cons_succ]
          refine skipK 16 84 rfl rfl (by kernel_rfl) (by kernel_rfl) (by kernel_rfl) (by kernel_rfl) (fun _ _ _ h => h) (by rfl) (by assumption) ?_
          simp only [List.setIfInBounds_toArray, List.set_cons_zero, List.set_cons_succ]
          refine skipK 17 85 rfl rfl (by kernel_rfl) (by kernel_rfl) (by kernel_rfl) (by kernel_rfl) (fun _ _ _ h => h) (by rfl) (by assumption) ?_
          simp only [List.setIfInBounds_toArray, List.set_cons_zero, List.set_cons_succ]
          refine skipK 18 86 rfl rfl (by kernel_rfl) (by kernel_rfl) (by kernel_rfl) (by kernel_rfl) (fun _ _ _ h => h) (by rfl) (by assumption) ?_
          simp only [List.setIfInBounds_toArray, List.set_cons_zero, List.set_cons_succ]
          refine skipK 19 87 rfl rfl (by kernel_rfl) (by kernel_rfl) (by kernel_rfl) (by kernel_rfl) (fun _ _ _ h => h) (by rfl) (by assumption) ?_
          simp only [List.setIfInBounds_toArray, List.set_cons_zero, List.set_cons_succ]
          refine takeK 20 88 (v := ?_) rfl rfl (by kernel_rfl) (by kernel_rfl) (by kernel_rfl) (by kernel_rfl) (fun _ _ _ h => h) (by rfl) ?_ (by assumption) ?_
          rotate_left
          · (intro w hSw; go_simp; first | done | with_reducible rfl)
          simp only [List.setIfInBounds_toArray, List.set_cons_zero, List.set_cons_succ]
          refine takeK 21 89 (v := ?_) rfl rfl (by kernel_rfl) (by kernel_rfl) (by kernel_rfl) (by kernel_rfl) (fun _ _ _ h => h) (by rfl) ?_ (by assumption) ?_
          rotate_left
          · (intro w hSw; go_simp; first | done | with_reducible rfl)
          simp only [List.setIfInBounds_toArray, List.set_cons_zero, List.set_cons_succ]
          refine doneK (by kernel_rfl) ?_ _
          clear hHeld
          go_wp2_with fail
          go_roundw
          case rel => exact ⟨j + 1, by omega, by go_num, HBl⟩
          case measure => simp [intOf]; omega
        · skip
          have e0 := HR.out.2 j hjl
          rw [Huj.out] at e0
          unfold sv at e0
          go_wp2_with fail
          clear e0
          refine (parse_any u w9 (by omega)).mono ?_
          rintro e w10 ⟨hB, he⟩
          rw [hp] at he
          obtain ⟨vx, rfl, hx, -⟩ := he
          have HR := Lib.hid (HR.out.below hB)
          have HB := Lib.hid (HB.out.trans (hB.mono HB.out.size))
          have HBl := Lib.hid (HBl.out.trans (hB.mono HBl.out.size))
          have Hx := Lib.hid hx
          obtain ⟨s_x, a_x, n_x, c_x, rfl⟩ := hx.form2
          clear hB hx
          obtain ⟨w11, hw⟩ : ∃ w', (w10.alloc (.cells #[.bool s_x, .slice a_x n_x c_x] 33)) = w' := ⟨_, rfl⟩
          have hB : Below w10.heap.size w10 w11 := by rw [← hw]; exact (Below.refl _ _).alloc (Nat.le_refl _) _
          obtain ⟨b_x, hb_x⟩ : ∃ b, w10.heap.size = b := ⟨_, rfl⟩
          have Tx' : Hid (Two w11 b_x 33 (.bool s_x) (.slice a_x n_x c_x)) := Lib.hid (by rw [← hw, ← hb_x]; have h9 := (Two.new w10 33 (.bool s_x) (.slice a_x n_x c_x)); exact h9)
          have HR := Lib.hid (HR.out.below hB)
          have Hx := Lib.hid (Hx.out.below hB)
          have HB := Lib.hid (HB.out.trans (hB.mono HB.out.size))
          have HBl := Lib.hid (HBl.out.trans (hB.mono HBl.out.size))
          have Tx := Tx'
          clear hB Tx'
          have e0 := HR.out.2 j hjl
          rw [Huj.out] at e0
          unfold sv at e0
          go_wp2_with fail
          clear e0
          clear hw hb_x
          refine (rparse_any u w11 (by omega)).mono ?_
          rintro e w12 ⟨hB, he⟩
          rw [hp] at he
          obtain ⟨va2, rfl, ha, -⟩ := he
          have HR := Lib.hid (HR.out.below hB)
          have Hx := Lib.hid (Hx.out.below hB)
          have Tx := Lib.hid (Tx.out.below hB Tx.out.lt)
          have HB := Lib.hid (HB.out.trans (hB.mono HB.out.size))
          have HBl := Lib.hid (HBl.out.trans (hB.mono HBl.out.size))
          have Ha := Lib.hid ha
          obtain ⟨s_a, a_a, n_a, c_a, rfl⟩ := ha.form2
          clear hB ha
          obtain ⟨w13, hw⟩ : ∃ w', (w12.alloc (.cells #[.bool s_a, .slice a_a n_a c_a] 25)) = w' := ⟨_, rfl⟩
          have hB : Below w12.heap.size w12 w13 := by rw [← hw]; exact (Below.refl _ _).alloc (Nat.le_refl _) _
          obtain ⟨b_a, hb_a⟩ : ∃ b, w12.heap.size = b := ⟨_, rfl⟩
          have Ta' : Hid (Two w13 b_a 25 (.bool s_a) (.slice a_a n_a c_a)) := Lib.hid (by rw [← hw, ← hb_a]; have h9 := (Two.new w12 25 (.bool s_a) (.slice a_a n_a c_a)); exact h9)
          have HR := Lib.hid (HR.out.below hB)
          have Hx := Lib.hid (Hx.out.below hB)
          have Ha := Lib.hid (Ha.out.below (Nat.le_refl _) hB)
          have Tx := Lib.hid (Tx.out.below hB Tx.out.lt)
          have HB := Lib.hid (HB.out.trans (hB.mono HB.out.size))
          have HBl := Lib.hid (HBl.out.trans (hB.mono HBl.out.size))
          have Ta := Ta'
          clear hB Ta'
          go_wp2_with fail
          clear hw hb_a
          have Hsv : Hid (sv (decZ z) = .string ⟨u.toArray⟩) := Lib.hid (by rw [parse_round u z hp]; rfl)
          have hj0 : (0 : Int) ≤ (j : Int) := by omega
          have hj1 : (j : Int) < 5 := by omega
          have hB : Below w13.heap.size w13 w13.drew := ⟨rfl, rfl, rfl, Nat.le_refl _, fun _ _ => rfl⟩
          have HR := Lib.hid (HR.out.below hB)
          have Hx := Lib.hid (Hx.out.below hB)
          have Ha := Lib.hid (Ha.out.below (Nat.le_refl _) hB)
          have Tx := Lib.hid (Tx.out.below hB Tx.out.lt)
          have Ta := Lib.hid (Ta.out.below hB Ta.out.lt)
          have HB := Lib.hid (HB.out.trans (hB.mono HB.out.size))
          have HBl := Lib.hid (HBl.out.trans (hB.mono HBl.out.size))
          clear hB
          go_region_held3 (fun w' => w'.cell? ⟨b_x, 0, none⟩ = some (.bool s_x) ∧ w'.cell? ⟨b_x, 1, none⟩ = some (.slice a_x n_x c_x) ∧ w'.cell? ⟨b_a, 0, none⟩ = some (.bool s_a) ∧ w'.cell? ⟨b_a, 1, none⟩ = some (.slice a_a n_a c_a) ∧ w'.cell? ⟨g, j, none⟩ = some (.string ⟨u.toArray⟩))
            (first | (exact ⟨Tx.out.cell0, Tx.out.cell1, Ta.out.cell0, Ta.out.cell1, (by have h9 := HR.out.2 j hjl; rw [Huj.out] at h9; exact h9)⟩) | go_keep)
            (first
              | (go_at_call 18; (with_reducible refine (equal_any _ _ _ w13.drew Hx.out Ha.out hz (HP.out.below HB.out hg)).mono ?_); rintro e w14 ⟨rfl, hB⟩; have HR := Lib.hid (HR.out.below hB); have Hx := Lib.hid (Hx.out.below hB); have Ha := Lib.hid (Ha.out.below (Nat.le_refl _) hB); have Tx := Lib.hid (Tx.out.below hB Tx.out.lt); have Ta := Lib.hid (Ta.out.below hB Ta.out.lt); have HB := Lib.hid (HB.out.trans (hB.mono HB.out.size)); have HBl := Lib.hid (HBl.out.trans (hB.mono HBl.out.size)); clear hB )
              | (go_at_call 19; (with_reducible refine (string_any _ z w14 Hx.out hz (HP.out.below HB.out hg)).mono ?_); rintro e w15 ⟨rfl, hB⟩; rw [Hsv.out]; have HR := Lib.hid (HR.out.below hB); have Hx := Lib.hid (Hx.out.below hB); have Ha := Lib.hid (Ha.out.below (Nat.le_refl _) hB); have Tx := Lib.hid (Tx.out.below hB Tx.out.lt); have Ta := Lib.hid (Ta.out.below hB Ta.out.lt); have HB := Lib.hid (HB.out.trans (hB.mono HB.out.size)); have HBl := Lib.hid (HBl.out.trans (hB.mono HBl.out.size)); clear hB ))
          go_wp2_with fail
          go_roundw
          case rel => exact ⟨j + 1, by omega, by go_num, HBl⟩
          case measure => simp [intOf]; omega
      · skip
        have hge : 5 ≤ j := by omega
        go_wp2_with fail
        refine (lives_any w9 (HP.out.below HB.out hg)).mono ?_
        rintro e w10 ⟨rfl, hB⟩
        have HB := Lib.hid (HB.out.trans (hB.mono HB.out.size))
        clear hB 
        go_wp2
        go_ret
        exact ⟨rfl, HB.out⟩

end Go.Proofs.YtgfgjnkndfgdiaaDoor
