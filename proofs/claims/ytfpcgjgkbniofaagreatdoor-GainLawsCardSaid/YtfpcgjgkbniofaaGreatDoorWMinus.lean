/- wide: minus. -/
import Derived.Test.YtfpcgjgkbniofaaGreatDoorWPlus
namespace Go.Proofs.YtfpcgjgkbniofaaGreatDoor
open Go.RowKit

def brw (s x br : Nat) : Nat := if s < x + br then 1 else 0
def dif (s x br : Nat) : Nat := s + brw s x br * W2 - x - br
theorem dif_eq (s x br : Nat) (hx : x < W2) (hbr : br ≤ 1) : dif s x br + x + br = s + brw s x br * W2 := by
  unfold dif brw
  split <;> (unfold W2 at *; omega)
theorem dif_lt (s x br : Nat) (hs : s < W2) (hbr : br ≤ 1) : dif s x br < W2 := by
  unfold dif brw
  split <;> (unfold W2 at *; omega)
theorem brw_le (s x br : Nat) : brw s x br ≤ 1 := by unfold brw; split <;> omega

theorem dif_word (s x br : Nat) (hs : s < W2) (hx : x < W2) (hbr : br ≤ 1) (T D : Int) (hT : T = ((s : Int) - x) % 18446744073709551616) (hD : D = (T - br) % 18446744073709551616) :
    D % 4294967296 = (dif s x br : Int) ∧ D / 9223372036854775808 = (brw s x br : Int) := by
  unfold dif brw
  unfold W2 at *
  split <;> omega

set_option maxHeartbeats 1000000 in
theorem mpass_any (i N g cb sb c x : Nat) (L : List Nat) (w : World) (hL : L.length = N) (hi : i < L.length) (_hN : N ≤ 1099511627776) (hblk : Blk w g 159 .u32 L) (hcb : One w cb 156 (.int .u64 (c : Int))) (hsb : One w sb 83 (.slice (some ⟨g, 0, none⟩) N N))
    (h1 : cb ≠ g) (h2 : sb ≠ g) (h3 : sb ≠ cb) (hc : c ≤ 1) (hx : x < 4294967296) (hlow : Low W2 L) :
    Calls Tryz.prog 128 #[.int .i64 (i : Int), .int .u32 (x : Int), .pointer (some ⟨sb, 0, none⟩), .pointer (some ⟨cb, 0, none⟩)] w fun e w' => (∃ v, e = .returned v) ∧
      Blk w' g 159 .u32 (L.set i (dif L[i] x c)) ∧ One w' cb 156 (.int .u64 ((brw L[i] x c : Nat) : Int)) ∧ One w' sb 83 (.slice (some ⟨g, 0, none⟩) N N) ∧ Only (fun k => k = g ∨ k = cb) w w' := by
  have Hblk := Lib.hid hblk
  have Hcb := Lib.hid hcb
  have Hsb := Lib.hid hsb
  have e1 := hblk.cell i hi
  have e2 := hblk.frozen i
  have e3 := hcb.cell
  have e4 := hcb.frozen
  have e5 := hsb.cell
  have hs : L[i] < 4294967296 := hlow _ (List.getElem_mem hi)
  clear hblk hcb hsb hlow
  have hi2 : i < N := by omega
  have hi3 : (0 : Int) ≤ (i : Int) := by omega
  have hi4 : (i : Int) < (N : Int) := by omega
  have HL := Lib.hid hL
  clear hL
  generalize hS : L[i] = s at *
  have HS := Lib.hid hS
  clear hS
  obtain ⟨T, hT⟩ : ∃ T : Int, T = ((s : Int) - x) % 18446744073709551616 := ⟨_, rfl⟩
  obtain ⟨D, hD⟩ : ∃ D : Int, D = (T - c) % 18446744073709551616 := ⟨_, rfl⟩
  have hdw := Lib.hid (dif_word s x c hs hx hc T D hT hD)
  have b1 : IntKind.u64.wrap ((s : Int) - x) = T := by rw [hT, IntKind.wrap_u64]
  have b2 : IntKind.u64.wrap (T - c) = D := by rw [hD, IntKind.wrap_u64]
  have hT0 : 0 ≤ T := by omega
  have hT1 : T ≤ 18446744073709551615 := by omega
  have hD0 : 0 ≤ D := by omega
  have hD1 : D ≤ 18446744073709551615 := by omega
  clear hT hD
  go_enter Tryz.func128, Tryz.ntmps128
  go_wp2
  go_quiet (fail)
  clear b1 b2
  go_wp2
  go_end0
  rw [hdw.out.1, hdw.out.2]
  refine ⟨⟨_, rfl⟩, ?_, ?_, ?_, ?_⟩
  · exact ((Hblk.out.set i _).far (p := ⟨cb, 0, none⟩) (Ne.symm h1) _).drewN _
  · exact (((Hcb.out.far (p := ⟨g, i, none⟩) h1 _).set _)).drewN _
  · exact ((Hsb.out.far (p := ⟨g, i, none⟩) h2 _).far (p := ⟨cb, 0, none⟩) h3 _).drewN _
  · exact (((Only.refl _ w).set (p := ⟨g, i, none⟩) (Or.inl rfl) _).set (p := ⟨cb, 0, none⟩) (Or.inr rfl) _).drewN _

/-- between two passes: k digits have been taken off, c is borrowed -/
structure MinusI (X Y : List Nat) (N k c : Nat) (L : List Nat) : Prop where
  len : L.length = N
  low : Low W2 L
  c1 : c ≤ 1
  eq : val W2 L + val W2 (Y.take k) = val W2 X + c * W2 ^ k

theorem MinusI.start (X Y : List Nat) (N : Nat) (hN : X.length = N) (hX : Low W2 X) : MinusI X Y N 0 0 X :=
  ⟨hN, hX, by omega, by simp [val]⟩

theorem sub_step (L : List Nat) (k c x : Nat) (h : k < L.length) (hx : x < W2) (hc : c ≤ 1) : val W2 (L.set k (dif L[k] x c)) + (x + c) * W2 ^ k = val W2 L + brw L[k] x c * W2 ^ (k + 1) := by
  have h1 := val_set W2 L k (dif L[k] x c) h
  have h2 := dif_eq L[k] x c hx hc
  rw [Nat.pow_succ]
  generalize dif L[k] x c = r at *
  generalize brw L[k] x c = q at *
  generalize W2 ^ k = p at *
  generalize L[k] = s at *
  generalize val W2 L = v at *
  generalize val W2 (L.set k r) = v' at *
  generalize W2 = B at *
  grind

theorem MinusI.next {X Y : List Nat} {N k c : Nat} {L : List Nat} (h : MinusI X Y N k c L) (hk : k < L.length) (hy : k < Y.length) (hY : Low W2 Y) :
    MinusI X Y N (k + 1) (brw L[k] Y[k] c) (L.set k (dif L[k] Y[k] c)) := by
  refine ⟨by rw [List.length_set]; exact h.len, low_set h.low _ _ (dif_lt _ _ _ (h.low _ (List.getElem_mem hk)) h.c1), brw_le _ _ _, ?_⟩
  have h1 := sub_step L k c Y[k] hk (hY _ (List.getElem_mem hy)) h.c1
  have h2 := h.eq
  rw [val_take_succ W2 Y k hy]
  rw [Nat.add_mul] at h1
  omega

theorem MinusI.over {X Y : List Nat} {N k c : Nat} {L : List Nat} (h : MinusI X Y N k c L) (hk : k < L.length) (hy : Y.length ≤ k) :
    MinusI X Y N (k + 1) (brw L[k] 0 c) (L.set k (dif L[k] 0 c)) := by
  refine ⟨by rw [List.length_set]; exact h.len, low_set h.low _ _ (dif_lt _ _ _ (h.low _ (List.getElem_mem hk)) h.c1), brw_le _ _ _, ?_⟩
  have h1 := sub_step L k c 0 hk (by decide) h.c1
  have h2 := h.eq
  rw [List.take_of_length_le (by omega)] at h2 ⊢
  rw [Nat.zero_add] at h1
  omega

theorem MinusI.room {X Y : List Nat} {N k c : Nat} {L : List Nat} (h : MinusI X Y N k c L) (hle : val W2 Y ≤ val W2 X) (hy : Y.length ≤ k) (hc : c ≠ 0) : k < N := by
  rcases Nat.lt_or_ge k N with h1 | h1
  · exact h1
  · have h2 := h.eq
    rw [List.take_of_length_le hy] at h2
    have h3 := val_lt W2 (by decide) L h.low
    rw [h.len] at h3
    have h5 : W2 ^ N ≤ W2 ^ k := Nat.pow_le_pow_right (by decide) h1
    have h6 : 1 * W2 ^ k ≤ c * W2 ^ k := Nat.mul_le_mul_right _ (by omega)
    omega

theorem MinusI.done {X Y : List Nat} {N k : Nat} {L : List Nat} (h : MinusI X Y N k 0 L) (hy : Y.length ≤ k) : val W2 L = val W2 X - val W2 Y := by
  have := h.eq
  rw [List.take_of_length_le hy, Nat.zero_mul, Nat.add_zero] at this
  omega

set_option maxRecDepth 100000 in
set_option maxHeartbeats 2000000 in
theorem minus_core (va vb : Value) (A B : List Nat) (w : World) (ha : RowAt .u32 w va A) (hb : RowAt .u32 w vb B) (hA : Low W2 A) (hB : Low W2 B) (hl : B.length ≤ A.length) (hle : val W2 B ≤ val W2 A) (hlen : A.length ≤ 1048576) :
    Calls Tryz.prog 118 #[va, vb] w fun e w' => ∃ v, e = .returned v ∧ RowAt .u32 w' v (digs W2 (val W2 A - val W2 B)) ∧ Below w.heap.size w w' := by
  have HX0 := Lib.hid ha
  obtain ⟨ya, ycap, hvy, y1, y2, hyc⟩ := hb
  subst hvy
  have Hyc := Lib.hid hyc
  have HlA := Lib.hid hA
  have HlB := Lib.hid hB
  have Hle := Lib.hid hle
  clear hyc hA hB hle ha
  obtain ⟨N, hN⟩ : ∃ N, A.length = N := ⟨_, rfl⟩
  obtain ⟨M, hM⟩ : ∃ M, B.length = M := ⟨_, rfl⟩
  have HN := Lib.hid hN
  have HM := Lib.hid hM
  have Hcl := Lib.hid (wclone_any va A w HX0.out (by omega))
  rw [hN] at hlen hl Hcl
  rw [hM] at y1 hl ⊢
  clear hN hM
  go_enter Tryz.func118, Tryz.ntmps118
  go_wp2_with fail
  refine Hcl.out.mono ?_
  rintro e w1 ⟨rfl, hblk, hB1⟩
  obtain ⟨g, hg⟩ : ∃ g, w.heap.size = g := ⟨_, rfl⟩
  have Hg := Lib.hid hg
  rw [hg] at hblk hB1 ⊢
  have hz1 := hblk.lt
  have Hblk1 := Lib.hid hblk
  have HB1 := Lib.hid hB1
  clear hg hblk hB1 Hcl
  go_wp2_with fail
  obtain ⟨sb, hsb⟩ : ∃ sb, w1.heap.size = sb := ⟨_, rfl⟩
  have hgs : g < sb := by omega
  obtain ⟨w4, hw4⟩ : ∃ w4, (w1.alloc (.cells #[.slice (some ⟨g, 0, none⟩) N N] 83)).alloc (.cells #[.int .u64 0] 156) = w4 := ⟨_, rfl⟩
  have hcb0 := One.new (w1.alloc (.cells #[.slice (some ⟨g, 0, none⟩) N N] 83)) 156 (.int .u64 0)
  have hsb0 := (One.new w1 83 (.slice (some ⟨g, 0, none⟩) N N)).alloc (.cells #[.int .u64 0] 156)
  rw [World.size_alloc, hsb, hw4] at hcb0
  rw [hsb, hw4] at hsb0
  have Hb4 := Lib.hid ((Hblk1.out.alloc (.cells #[.slice (some ⟨g, 0, none⟩) N N] 83)).alloc (.cells #[.int .u64 0] 156))
  have HB4 := Lib.hid ((HB1.out.alloc (by omega) (.cells #[.slice (some ⟨g, 0, none⟩) N N] 83)).alloc (by simp; omega) (.cells #[.int .u64 0] 156))
  have Hcb4 := Lib.hid hcb0
  have Hsb4 := Lib.hid hsb0
  rw [hw4] at Hb4 HB4
  rw [hsb, hw4]
  clear hcb0 hsb0 hw4 hsb Hblk1 HB1 hz1
  have HI0 := Lib.hid (MinusI.start A B N HN.out HlA.out)
  go_loopw [16] (fun i wr => ∃ (k c : Nat) (L : List Nat), k ≤ M ∧ i = .int .i64 k ∧ Hid (MinusI A B N k c L) ∧ Hid (Blk wr g 159 .u32 L) ∧ Hid (One wr (sb + 1) 156 (.int .u64 (c : Int))) ∧ Hid (One wr sb 83 (.slice (some ⟨g, 0, none⟩) N N)) ∧ Hid (Below g w wr)) (fun i _ => M - (intOf i).toNat)
  case atStart => exact ⟨0, 0, _, by omega, rfl, HI0, Hb4, Hcb4, Hsb4, HB4⟩
  case round =>
    obtain ⟨k, c, L, hk, rfl, hI, hbl, hcb, hsb, hB⟩ := hrel
    have hgw := hbl.out.lt
    by_cases hlt : k < M
    · have hy : k < B.length := by rw [HM.out]; exact hlt
      have hkl : k < L.length := by rw [hI.out.len]; omega
      obtain ⟨b, off, rfl, hb, hcc⟩ := Hyc.out (by omega)
      rw [Hg.out] at hb
      have cy := (hB.out.cell (p := ⟨b, off + k, none⟩) hb).trans (hcc k hy)
      have hyl : B[k] < 4294967296 := HlB.out _ (List.getElem_mem hy)
      have Hnext := Lib.hid (hI.out.next hkl hy HlB.out)
      have hc1 := hI.out.c1
      have Hp := Lib.hid (mpass_any k N g (sb + 1) sb c B[k] L wr hI.out.len hkl (by omega) hbl.out hcb.out hsb.out (by omega) (by omega) (by omega) hc1 hyl hI.out.low)
      clear hcc
      generalize B[k] = y at *
      go_wp2_with (go_at_call 128; refine Hp.out.mono ?_; rintro e w5 ⟨⟨v5, rfl⟩, q1, q2, q3, q4⟩; have Q1 := Lib.hid q1; have Q2 := Lib.hid q2; have Q3 := Lib.hid q3; have Q4 := Lib.hid q4; clear q1 q2 q3 q4)
      go_roundw
      case rel => exact ⟨k + 1, _, _, by omega, by go_num, Hnext, Q1, Q2, Q3, Lib.hid (Q4.out.below hB.out (by omega) (fun b e => by rcases e with e | e <;> omega))⟩
      case measure => simp [intOf]; omega
    · obtain rfl : k = M := by omega
      clear hlt
      go_wp2_with fail
      obtain ⟨wo, rfl⟩ : ∃ wo : World, wo = wr := ⟨_, rfl⟩
      go_loopw [10] (fun i wr => ∃ (m c : Nat) (L : List Nat), k ≤ m ∧ m ≤ N ∧ i = .int .i64 m ∧ Hid (MinusI A B N m c L) ∧ Hid (Blk wr g 159 .u32 L) ∧ Hid (One wr (sb + 1) 156 (.int .u64 (c : Int))) ∧ Hid (One wr sb 83 (.slice (some ⟨g, 0, none⟩) N N)) ∧ Hid (Below g w wr)) (fun i _ => N - (intOf i).toNat)
      case atStart => exact ⟨k, c, L, Nat.le_refl _, by omega, rfl, hI, hbl, hcb, hsb, hB⟩
      case round =>
        clear hI hbl hcb hsb hB hgw
        obtain ⟨m, c2, L2, hm1, hm2, rfl, hI, hbl, hcb, hsb, hB⟩ := hrel
        have hgw := hbl.out.lt
        have ccb := hcb.out.cell
        have hYk : B.length ≤ m := by rw [HM.out]; exact hm1
        by_cases hc0 : c2 = 0
        · subst hc0
          have csb := hsb.out.cell
          have hlen2 := hI.out.len
          have Htr := Lib.hid (trim_any (.slice (some ⟨g, 0, none⟩) N N) L2 wr (by
            have := RowAt.of_blk hbl.out (cap := N) (by omega) (by omega)
            rw [hlen2] at this
            exact this) hI.out.low (by omega))
          rw [hI.out.done hYk] at Htr
          clear hlen2
          go_wp2_with (go_at_call 116; refine Htr.out.mono ?_; rintro e w6 ⟨v6, rfl, q1, rfl⟩; have Q1 := Lib.hid q1; clear q1)
          go_ret
          exact ⟨_, rfl, Q1.out, by rw [Hg.out]; exact hB.out⟩
        · have hmN := hI.out.room Hle.out hYk hc0
          have hkl : m < L2.length := by rw [hI.out.len]; omega
          have Hnext := Lib.hid (hI.out.over hkl hYk)
          have hc1 := hI.out.c1
          have Hp := Lib.hid (mpass_any m N g (sb + 1) sb c2 0 L2 wr hI.out.len hkl (by omega) hbl.out hcb.out hsb.out (by omega) (by omega) (by omega) hc1 (by omega) hI.out.low)
          have hcpos : 0 < c2 := by omega
          clear hc0
          go_wp2_with (go_at_call 128; refine Hp.out.mono ?_; rintro e w5 ⟨⟨v5, rfl⟩, q1, q2, q3, q4⟩; have Q1 := Lib.hid q1; have Q2 := Lib.hid q2; have Q3 := Lib.hid q3; have Q4 := Lib.hid q4; clear q1 q2 q3 q4)
          go_roundw
          case rel => exact ⟨m + 1, _, _, by omega, by omega, by go_num, Hnext, Q1, Q2, Q3, Lib.hid (Q4.out.below hB.out (by omega) (fun b e => by rcases e with e | e <;> omega))⟩
          case measure => simp [intOf]; omega

theorem minus_any (va vb : Value) (m n : Nat) (w : World) (ha : MagAt w va m) (hb : MagAt w vb n) (hle : n ≤ m) (hl1 : (digs W2 m).length ≤ 1048576) :
    Calls Tryz.prog 118 #[va, vb] w fun e w' => ∃ v, e = .returned v ∧ MagAt w' v (m - n) ∧ Below w.heap.size w w' := by
  have key := minus_core va vb _ _ w ha hb (digs_low W2 w2_two m) (digs_low W2 w2_two n) (digs_len_mono W2 w2_two n m hle) (by rw [val_digs W2 w2_two, val_digs W2 w2_two]; exact hle) hl1
  rw [val_digs W2 w2_two, val_digs W2 w2_two] at key
  exact key

end Go.Proofs.YtfpcgjgkbniofaaGreatDoor
