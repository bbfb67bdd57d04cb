/- wide: trim, clone, compare. -/
import Derived.Test.YtgfgjnkndfgdiaaDoorMem
import Derived.Test.YtgfgjnkndfgdiaaDoorDecimal
import Derived.Test.YtgfgjnkndfgdiaaDoorProg
import Derived.Deep.QuietTactic
import Derived.BigQuiet
import Derived.LoopTactic
import Derived.RegionTactic
import Derived.BigRegion
import Derived.ChangeAlike
import Derived.IntWalk
import Derived.Outline
import Derived.WalkLawsBesides
namespace Go.Proofs.YtgfgjnkndfgdiaaDoor
open Go.RowKit

abbrev W2 : Nat := 4294967296
theorem w2_two : 2 ≤ W2 := by decide

set_option maxHeartbeats 1000000 in
theorem trim_any (v : Value) (L : List Nat) (w : World) (h : RowAt .u32 w v L) (hlow : Low W2 L) (hlen : L.length ≤ 4611686018427387904) :
    Calls Tryd.prog 59 #[v] w fun e w' => ∃ v', e = .returned v' ∧ RowAt .u32 w v' (digs W2 (val W2 L)) ∧ w = w' := by
  have Htake := Lib.hid (fun n hn => h.take n hn)
  obtain ⟨a, cap, rfl, h1, h2, hc⟩ := h
  have Hc := Lib.hid hc
  have Hlow := Lib.hid hlow
  clear hc hlow
  obtain ⟨N, hN⟩ : ∃ N, L.length = N := ⟨_, rfl⟩
  have HN := Lib.hid hN
  rw [hN] at h1 hlen ⊢
  clear hN
  go_enter Tryd.func59, Tryd.ntmps59
  go_wp2
  go_loop [3] (fun i => ∃ n : Nat, n ≤ N ∧ i = .int .i64 n ∧ Hid (∀ j (h : j < L.length), n ≤ j → L[j] = 0)) (fun i => (intOf i).toNat)
  case atStart => exact ⟨N, Nat.le_refl _, rfl, Lib.hid (fun j hj hn => by rw [HN.out] at hj; omega)⟩
  case round =>
    obtain ⟨n, hn, rfl, hz⟩ := hrel
    have hdone : ∀ n : Nat, n ≤ N → (∀ j (h : j < L.length), n ≤ j → L[j] = 0) → (∀ h : n - 1 < L.length, n = 0 ∨ L[n - 1] ≠ 0) → ∃ v', Ending.returned (.slice a n cap) = .returned v' ∧ RowAt .u32 w v' (digs W2 (val W2 L)) := by
      intro n hn hz hl
      obtain ⟨a', cap', hv, _, _, hr⟩ := Htake.out n (by rw [HN.out]; exact hn)
      rw [HN.out] at hv
      injection hv with e1 e2 e3
      subst e1 e3
      rw [take_digs W2 w2_two L Hlow.out n (by rw [HN.out]; exact hn) hz hl] at hr
      exact ⟨_, rfl, hr⟩
    have Hd := Lib.hid hdone
    clear hdone
    by_cases h0 : n = 0
    · subst h0
      go_wp2
      go_ret
      obtain ⟨v', e, hr⟩ := Hd.out 0 hn hz.out (fun _ => .inl rfl)
      exact ⟨v', e, hr, rfl⟩
    · have hlt : n - 1 < L.length := by rw [HN.out]; omega
      obtain ⟨b, off, rfl, hb, hcc⟩ := Hc.out (by rw [HN.out]; omega)
      have hcell := hcc (n - 1) hlt
      clear hcc
      by_cases hzz : L[n - 1] = 0
      · have hz2 : Hid (∀ j (h : j < L.length), n - 1 ≤ j → L[j] = 0) := Lib.hid (fun j hj hnj => by
          by_cases e : j = n - 1
          · subst e; exact hzz
          · exact hz.out j hj (by omega))
        rw [hzz] at hcell
        clear hzz
        go_wp2
        go_round
        case rel => exact ⟨n - 1, by omega, by go_num, hz2⟩
        case measure => simp [intOf]; omega
      · have hne : (((L[n - 1] : Nat) : Int) == 0) = false := by simp; exact hzz
        go_wp2
        go_ret
        obtain ⟨v', e, hr⟩ := Hd.out n hn hz.out (fun _ => .inr hzz)
        exact ⟨v', e, hr, rfl⟩

theorem info32 : (Tryd.prog.info? 74).map (fun i => (i.zero, i.size, i.bytes)) = some (some (.int .u32 0), 1, 4) := by kernel_rfl
theorem size32 : (Tryd.prog.info? 74).map (·.size) = some 1 := by kernel_rfl

set_option maxHeartbeats 1000000 in
theorem clone_any (v : Value) (L : List Nat) (w : World) (h : RowAt .u32 w v L) (hlen : L.length ≤ 1099511627776) :
    Calls Tryd.prog 51 #[v] w fun e w' => e = .returned (.slice (some ⟨w.heap.size, 0, none⟩) L.length L.length) ∧ Blk w' w.heap.size 74 .u32 L ∧ Below w.heap.size w w' := by
  obtain ⟨i0, hi, hz0, hz1, hz2⟩ := info_parts info32
  have Hi := Lib.hid hi
  have Hz0 := Lib.hid hz0
  have Hz1 := Lib.hid hz1
  have Hz2 := Lib.hid hz2
  clear hi hz0 hz1 hz2
  have Hrow0 := Lib.hid h
  obtain ⟨a, cap, rfl, h1, h2, _⟩ := h
  obtain ⟨N, hN⟩ : ∃ N, L.length = N := ⟨_, rfl⟩
  have HN := Lib.hid hN
  rw [hN] at h1 hlen Hrow0 ⊢
  clear hN
  go_enter Tryd.func51, Tryd.ntmps51
  go_wp2_with (at_make; refine wpList_make_blk _ rfl _ _ 31 rfl 74 i0 .u32 Tryd.underlying31 Hi.out Hz0.out Hz1.out _ _ _ _ N rfl rfl rfl rfl (by rw [Hz2.out]; omega) (by omega) ?_)
  intro w1 hblk hB1 hz1
  have Hblk := Lib.hid hblk
  have HB1 := Lib.hid hB1
  have Hrow := Lib.hid (Hrow0.out.below (Nat.le_refl _) hB1)
  clear hblk hB1 Hrow0
  go_wp2_with (with_reducible refine wpList_copy_blk rfl (.tmp 7) (.tmp 8) 31 rfl 74 Tryd.underlying31 size32 .u32 w.heap.size N N (List.replicate N 0) L a N cap rfl rfl Hblk.out (List.length_replicate ..) HN.out (Nat.le_refl _) Hrow.out ?_)
  intro w2 hb2 hO2 _
  have Hb2 := Lib.hid hb2
  have HB2 := Lib.hid (hO2.below HB1.out (Nat.le_of_lt hz1) (fun b e => by rw [e]; exact Nat.le_refl _))
  clear hb2 hO2
  go_wp2
  go_ret
  refine ⟨rfl, ?_, HB2.out⟩
  have := Hb2.out
  rw [HN.out, Nat.sub_self, List.replicate_zero, List.append_nil] at this
  exact this

def cmp3 (a b : Int) : Int := if a < b then -1 else if b < a then 1 else 0

theorem cmpInt_any (a b : Int) (w : World) : Calls Tryd.prog 86 #[.int .i64 a, .int .i64 b] w fun e w' => e = .returned (.int .i64 (cmp3 a b)) ∧ w = w' := by
  have hn : ∀ (x : Int), Calls Tryd.prog 96 #[.int .i64 x] w fun e w' => e = .returned (.bool false) ∧ w = w' := by
    intro x
    have hx : (x != x) = false := by simp
    go_enter Tryd.func96, Tryd.ntmps96
    go_wp2
    go_ret
    exact ⟨rfl, rfl⟩
  have Hn := Lib.hid hn
  clear hn
  rcases Int.lt_trichotomy a b with h | h | h
  · have hc : Hid (cmp3 a b = -1) := Lib.hid (by unfold cmp3; rw [if_pos h])
    go_enter Tryd.func86, Tryd.ntmps86
    go_wp2_with (go_at_call 96; refine (Hn.out _).mono ?_; rintro e w' ⟨rfl, rfl⟩)
    go_ret
    exact ⟨by rw [hc.out]; rfl, rfl⟩
  · subst h
    have hc : Hid (cmp3 a a = 0) := Lib.hid (by unfold cmp3; rw [if_neg (by omega), if_neg (by omega)])
    go_enter Tryd.func86, Tryd.ntmps86
    go_wp2_with (go_at_call 96; refine (Hn.out _).mono ?_; rintro e w' ⟨rfl, rfl⟩)
    go_ret
    exact ⟨by rw [hc.out]; rfl, rfl⟩
  · have hc : Hid (cmp3 a b = 1) := Lib.hid (by unfold cmp3; rw [if_neg (by omega), if_pos h])
    have h' : ¬ a < b := by omega
    go_enter Tryd.func86, Tryd.ntmps86
    go_wp2_with (go_at_call 96; refine (Hn.out _).mono ?_; rintro e w' ⟨rfl, rfl⟩)
    go_ret
    exact ⟨by rw [hc.out]; rfl, rfl⟩

theorem cmpU32_any (a b : Int) (w : World) : Calls Tryd.prog 87 #[.int .u32 a, .int .u32 b] w fun e w' => e = .returned (.int .i64 (cmp3 a b)) ∧ w = w' := by
  have hn : ∀ (x : Int), Calls Tryd.prog 97 #[.int .u32 x] w fun e w' => e = .returned (.bool false) ∧ w = w' := by
    intro x
    have hx : (x != x) = false := by simp
    go_enter Tryd.func97, Tryd.ntmps97
    go_wp2
    go_ret
    exact ⟨rfl, rfl⟩
  have Hn := Lib.hid hn
  clear hn
  rcases Int.lt_trichotomy a b with h | h | h
  · have hc : Hid (cmp3 a b = -1) := Lib.hid (by unfold cmp3; rw [if_pos h])
    go_enter Tryd.func87, Tryd.ntmps87
    go_wp2_with (go_at_call 97; refine (Hn.out _).mono ?_; rintro e w' ⟨rfl, rfl⟩)
    go_ret
    exact ⟨by rw [hc.out]; rfl, rfl⟩
  · subst h
    have hc : Hid (cmp3 a a = 0) := Lib.hid (by unfold cmp3; rw [if_neg (by omega), if_neg (by omega)])
    go_enter Tryd.func87, Tryd.ntmps87
    go_wp2_with (go_at_call 97; refine (Hn.out _).mono ?_; rintro e w' ⟨rfl, rfl⟩)
    go_ret
    exact ⟨by rw [hc.out]; rfl, rfl⟩
  · have hc : Hid (cmp3 a b = 1) := Lib.hid (by unfold cmp3; rw [if_neg (by omega), if_pos h])
    have h' : ¬ a < b := by omega
    go_enter Tryd.func87, Tryd.ntmps87
    go_wp2_with (go_at_call 97; refine (Hn.out _).mono ?_; rintro e w' ⟨rfl, rfl⟩)
    go_ret
    exact ⟨by rw [hc.out]; rfl, rfl⟩

theorem cmp3_lt {a b : Int} (h : a < b) : cmp3 a b = -1 := by unfold cmp3; rw [if_pos h]
theorem cmp3_gt {a b : Int} (h : b < a) : cmp3 a b = 1 := by unfold cmp3; rw [if_neg (by omega), if_pos h]
theorem cmp3_eq (a : Int) : cmp3 a a = 0 := by unfold cmp3; rw [if_neg (by omega), if_neg (by omega)]

theorem cmp_len (m n : Nat) (h : (digs W2 m).length ≠ (digs W2 n).length) : cmp3 ((digs W2 m).length : Int) ((digs W2 n).length : Int) = cmp3 (m : Int) (n : Int) := by
  rcases Nat.lt_or_gt_of_ne h with h | h
  · rw [cmp3_lt (by omega), cmp3_lt (by have := lt_of_len W2 w2_two m n h; omega)]
  · rw [cmp3_gt (by omega), cmp3_gt (by have := lt_of_len W2 w2_two n m h; omega)]

theorem drop_pred {A B : List Nat} {n : Nat} (hn : n - 1 < A.length) (hm : n - 1 < B.length) (h0 : 0 < n) (hd : A.drop n = B.drop n) (he : A[n - 1] = B[n - 1]) : A.drop (n - 1) = B.drop (n - 1) := by
  rw [List.drop_eq_getElem_cons hn, List.drop_eq_getElem_cons hm, he, Nat.sub_add_cancel h0, hd]

theorem cmp_at (m n i : Nat) (h1 : i - 1 < (digs W2 m).length) (h2 : i - 1 < (digs W2 n).length) (h0 : 0 < i) (hd : (digs W2 m).drop i = (digs W2 n).drop i) (hne : (digs W2 m)[i - 1] ≠ (digs W2 n)[i - 1]) :
    cmp3 ((digs W2 m)[i - 1] : Int) ((digs W2 n)[i - 1] : Int) = cmp3 (m : Int) (n : Int) := by
  have e : i - 1 + 1 = i := Nat.sub_add_cancel h0
  rcases Nat.lt_or_gt_of_ne hne with h | h
  · have := val_lt_at W2 w2_two _ _ (digs_low W2 w2_two m) (i - 1) h1 h2 (by rw [e]; exact hd) h
    rw [val_digs W2 w2_two, val_digs W2 w2_two] at this
    rw [cmp3_lt (by omega), cmp3_lt (by omega)]
  · have := val_lt_at W2 w2_two _ _ (digs_low W2 w2_two n) (i - 1) h2 h1 (by rw [e]; exact hd.symm) h
    rw [val_digs W2 w2_two, val_digs W2 w2_two] at this
    rw [cmp3_gt (by omega), cmp3_gt (by omega)]

set_option maxHeartbeats 1000000 in
theorem compare_any (va vb : Value) (m n : Nat) (w : World) (ha : RowAt .u32 w va (digs W2 m)) (hb : RowAt .u32 w vb (digs W2 n)) (hl1 : (digs W2 m).length ≤ 4611686018427387904) (_hl2 : (digs W2 n).length ≤ 4611686018427387904) :
    Calls Tryd.prog 68 #[va, vb] w fun e w' => e = .returned (.int .i64 (cmp3 (m : Int) (n : Int))) ∧ ∃ d, w' = w.drewN d := by
  obtain ⟨a, cap, rfl, h1, h2, hc⟩ := ha
  obtain ⟨a', cap', rfl, h1', h2', hc'⟩ := hb
  have Hc := Lib.hid hc
  have Hc' := Lib.hid hc'
  clear hc hc'
  by_cases hne : (digs W2 m).length = (digs W2 n).length
  · obtain ⟨N, hN⟩ : ∃ N, (digs W2 m).length = N := ⟨_, rfl⟩
    have HN := Lib.hid hN
    have HM := Lib.hid (hne.symm.trans hN)
    rw [hne.symm.trans hN] at h1' _hl2 ⊢
    rw [hN] at h1 hl1 ⊢
    clear hN hne
    go_enter Tryd.func68, Tryd.ntmps68
    go_wp2
    go_loopw [5] (fun i wr => ∃ k d : Nat, k ≤ N ∧ i = .int .i64 ((k : Int) - 1) ∧ Hid ((digs W2 m).drop k = (digs W2 n).drop k) ∧ Hid (wr = w.drewN d)) (fun i _ => (intOf i + 1).toNat)
    case atStart => exact ⟨N, 0, Nat.le_refl _, rfl, Lib.hid (by rw [List.drop_of_length_le (by rw [HN.out]; exact Nat.le_refl _), List.drop_of_length_le (by rw [HM.out]; exact Nat.le_refl _)]), Lib.hid rfl⟩
    case round =>
      obtain ⟨k, d, hk, rfl, hd, hw⟩ := hrel
      have hw' := hw.out
      subst hw'
      clear hw
      by_cases h0 : k = 0
      · subst h0
        have he : Hid (cmp3 (m : Int) (n : Int) = 0) := Lib.hid (by
          have := hd.out
          rw [List.drop_zero, List.drop_zero] at this
          have h3 : m = n := by rw [← val_digs W2 w2_two m, ← val_digs W2 w2_two n, this]
          rw [h3, cmp3_eq])
        go_wp2
        go_ret
        exact ⟨by rw [he.out]; rfl, d, rfl⟩
      · have q1 : k - 1 < (digs W2 m).length := by rw [HN.out]; omega
        have q2 : k - 1 < (digs W2 n).length := by rw [HM.out]; omega
        obtain ⟨b, off, rfl, hb, hcc⟩ := Hc.out (by omega)
        obtain ⟨b', off', rfl, hb', hcc'⟩ := Hc'.out (by omega)
        have c1 := hcc (k - 1) q1
        have c2 := hcc' (k - 1) q2
        clear hcc hcc'
        have i0 : (0 : Int) ≤ (k : Int) - 1 := by omega
        have i1 : (k : Int) - 1 < (N : Int) := by omega
        have i2 : ((k : Int) - 1).toNat = k - 1 := by omega
        by_cases he : (digs W2 m)[k - 1] = (digs W2 n)[k - 1]
        · have Hd2 := Lib.hid (drop_pred q1 q2 (by omega) hd.out he)
          rw [he] at c1
          generalize (digs W2 n)[k - 1] = z at *
          clear he
          go_wp2
          go_quiet (fail)
          go_wp2
          go_roundw
          case rel => exact ⟨k - 1, _, by omega, by go_num, Hd2, Lib.hid rfl⟩
          case measure => simp [intOf]; omega
        · have Hca := Lib.hid (cmp_at m n k q1 q2 (by omega) hd.out he)
          have hx : ((((digs W2 m)[k - 1] : Nat) : Int) != (((digs W2 n)[k - 1] : Nat) : Int)) = true := by simp only [bne_iff_ne, ne_eq]; omega
          clear he
          generalize (digs W2 n)[k - 1] = z at *
          generalize (digs W2 m)[k - 1] = y at *
          go_wp2
          go_quiet (fail)
          obtain ⟨W3, hW3⟩ : ∃ W3, (w.drewN d).drewN nq = W3 := ⟨_, rfl⟩
          have c3 : W3.cell? ⟨b, off + (k - 1), none⟩ = some (.int .u32 (y : Int)) := by rw [← hW3]; exact c1
          have c4 : W3.cell? ⟨b', off' + (k - 1), none⟩ = some (.int .u32 (z : Int)) := by rw [← hW3]; exact c2
          have HW3 := Lib.hid hW3
          rw [hW3]
          clear hW3 c1 c2
          go_wp2
          go_quiet ((go_at_call 87; exact Calls.quiet_of_same ((cmpU32_any _ _ _).mono fun _ _ h => ⟨h.1, h.2.symm⟩)))
          go_wp2
          go_ret
          exact ⟨by rw [← Hca.out]; rfl, _, by rw [← HW3.out, World.drewN_drewN, World.drewN_drewN]⟩
  · have Hcl := Lib.hid (cmp_len m n hne)
    have hx : ((((digs W2 m).length : Nat) : Int) != (((digs W2 n).length : Nat) : Int)) = true := by simp only [bne_iff_ne, ne_eq]; omega
    have hx2 : ((digs W2 m).length != (digs W2 n).length) = true := by simpa using hne
    clear hne Hc Hc'
    generalize (digs W2 m).length = N at *
    generalize (digs W2 n).length = M at *
    go_enter Tryd.func68, Tryd.ntmps68
    go_wp2_with (go_at_call 86; refine (cmpInt_any _ _ _).mono ?_; rintro e w' ⟨rfl, rfl⟩)
    go_ret
    exact ⟨by rw [← Hcl.out]; rfl, 0, rfl⟩

end Go.Proofs.YtgfgjnkndfgdiaaDoor
