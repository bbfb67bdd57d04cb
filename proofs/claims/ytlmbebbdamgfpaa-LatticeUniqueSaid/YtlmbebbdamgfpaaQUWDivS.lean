/- wide: divideShort. -/
import Derived.Test.YtlmbebbdamgfpaaQUWPlus
import Derived.Laws.BitsAllLaws
import Derived.Laws.BitsLemmas
set_option linter.unusedVariables false
set_option linter.unusedSimpArgs false
namespace Go.Proofs.Ytlmbebbdamgfpaa
open Go.RowKit

def brw (s x br : Nat) : Nat := if s < x + br then 1 else 0
def dif (s x br : Nat) : Nat := s + brw s x br * W2 - x - br
theorem dif_eq (s x br : Nat) (hx : x < W2) (hbr : br ≤ 1) : dif s x br + x + br = s + brw s x br * W2 := by
 unfold dif brw
 split <;> (unfold W2 at *; omega)
theorem dif_lt (s x br : Nat) (hs : s < W2) (hbr : br ≤ 1) : dif s x br < W2 := by
 unfold dif brw
 split <;> (unfold W2 at *; omega)
theorem brw_le (s x br : Nat) : brw s x br ≤ 1 := by unfold brw; split <;> omega

theorem dif_word (s x br : Nat) (hs : s < W2) (hx : x < W2) (hbr : br ≤ 1) (T D : Int) (hT : T = ((s : Int) - x) % 18446744073709551616) (hD : D = (T - br) % 18446744073709551616) :
 D % 4294967296 = (dif s x br : Int) ∧ D / 9223372036854775808 = (brw s x br : Int) := by
 unfold dif brw
 unfold W2 at *
 split <;> omega

set_option maxHeartbeats 1000000 in
theorem mpass_any (i N g cb sb c x : Nat) (L : List Nat) (w : World) (hL : L.length = N) (hi : i < L.length) (_hN : N ≤ 1099511627776) (hblk : Blk w g 88 .u32 L) (hcb : One w cb 85 (.int .u64 (c : Int))) (hsb : One w sb 56 (.slice (some ⟨g, 0, none⟩) N N))
 (h1 : cb ≠ g) (h2 : sb ≠ g) (h3 : sb ≠ cb) (hc : c ≤ 1) (hx : x < 4294967296) (hlow : Low W2 L) :
 Calls Try.prog 91 #[.int .i64 (i : Int), .int .u32 (x : Int), .pointer (some ⟨sb, 0, none⟩), .pointer (some ⟨cb, 0, none⟩)] w fun e w' => (∃ v, e = .returned v) ∧
  Blk w' g 88 .u32 (L.set i (dif L[i] x c)) ∧ One w' cb 85 (.int .u64 ((brw L[i] x c : Nat) : Int)) ∧ One w' sb 56 (.slice (some ⟨g, 0, none⟩) N N) ∧ Only (fun k => k = g ∨ k = cb) w w' := by
 have Hblk := Lib.hid hblk
 have Hcb := Lib.hid hcb
 have Hsb := Lib.hid hsb
 have e1 := hblk.cell i hi
 have e2 := hblk.frozen i
 have e3 := hcb.cell
 have e4 := hcb.frozen
 have e5 := hsb.cell
 have hs : L[i] < 4294967296 := hlow _ (List.getElem_mem hi)
 clear hblk hcb hsb hlow
 have hi2 : i < N := by omega
 have hi3 : (0 : Int) ≤ (i : Int) := by omega
 have hi4 : (i : Int) < (N : Int) := by omega
 have HL := Lib.hid hL
 clear hL
 generalize hS : L[i] = s at *
 have HS := Lib.hid hS
 clear hS
 obtain ⟨T, hT⟩ : ∃ T : Int, T = ((s : Int) - x) % 18446744073709551616 := ⟨_, rfl⟩
 obtain ⟨D, hD⟩ : ∃ D : Int, D = (T - c) % 18446744073709551616 := ⟨_, rfl⟩
 have hdw := Lib.hid (dif_word s x c hs hx hc T D hT hD)
 have b1 : IntKind.u64.wrap ((s : Int) - x) = T := by rw [hT, IntKind.wrap_u64]
 have b2 : IntKind.u64.wrap (T - c) = D := by rw [hD, IntKind.wrap_u64]
 have hT0 : 0 ≤ T := by omega
 have hT1 : T ≤ 18446744073709551615 := by omega
 have hD0 : 0 ≤ D := by omega
 have hD1 : D ≤ 18446744073709551615 := by omega
 clear hT hD
 go_enter Try.func91, Try.ntmps91
 go_wp2
 go_quiet (fail)
 clear b1 b2
 go_wp2
 go_end0
 rw [hdw.out.1, hdw.out.2]
 refine ⟨⟨_, rfl⟩, ?_, ?_, ?_, ?_⟩
 ·exact ((Hblk.out.set i _).far (p := ⟨cb, 0, none⟩) (Ne.symm h1) _).drewN _
 ·exact (((Hcb.out.far (p := ⟨g, i, none⟩) h1 _).set _)).drewN _
 ·exact ((Hsb.out.far (p := ⟨g, i, none⟩) h2 _).far (p := ⟨cb, 0, none⟩) h3 _).drewN _
 ·exact (((Only.refl _ w).set (p := ⟨g, i, none⟩) (Or.inl rfl) _).set (p := ⟨cb, 0, none⟩) (Or.inr rfl) _).drewN _

/-- between two passes: k digits have been taken off, c is borrowed -/
structure MinusI (X Y : List Nat) (N k c : Nat) (L : List Nat) : Prop where
 len : L.length = N
 low : Low W2 L
 c1 : c ≤ 1
 eq : val W2 L + val W2 (Y.take k) = val W2 X + c * W2 ^ k

theorem MinusI.start (X Y : List Nat) (N : Nat) (hN : X.length = N) (hX : Low W2 X) : MinusI X Y N 0 0 X :=
 ⟨hN, hX, by omega, by simp [val]⟩

theorem sub_step (L : List Nat) (k c x : Nat) (h : k < L.length) (hx : x < W2) (hc : c ≤ 1) : val W2 (L.set k (dif L[k] x c)) + (x + c) * W2 ^ k = val W2 L + brw L[k] x c * W2 ^ (k + 1) := by
 have h1 := val_set W2 L k (dif L[k] x c) h
 have h2 := dif_eq L[k] x c hx hc
 rw [Nat.pow_succ]
 generalize dif L[k] x c = r at *
 generalize brw L[k] x c = q at *
 generalize W2 ^ k = p at *
 generalize L[k] = s at *
 generalize val W2 L = v at *
 generalize val W2 (L.set k r) = v' at *
 generalize W2 = B at *
 grind

theorem MinusI.next {X Y : List Nat} {N k c : Nat} {L : List Nat} (h : MinusI X Y N k c L) (hk : k < L.length) (hy : k < Y.length) (hY : Low W2 Y) :
 MinusI X Y N (k + 1) (brw L[k] Y[k] c) (L.set k (dif L[k] Y[k] c)) := by
 refine ⟨by rw [List.length_set]; exact h.len, low_set h.low _ _ (dif_lt _ _ _ (h.low _ (List.getElem_mem hk)) h.c1), brw_le _ _ _, ?_⟩
 have h1 := sub_step L k c Y[k] hk (hY _ (List.getElem_mem hy)) h.c1
 have h2 := h.eq
 rw [val_take_succ W2 Y k hy]
 rw [Nat.add_mul] at h1
 omega

theorem MinusI.over {X Y : List Nat} {N k c : Nat} {L : List Nat} (h : MinusI X Y N k c L) (hk : k < L.length) (hy : Y.length ≤ k) :
 MinusI X Y N (k + 1) (brw L[k] 0 c) (L.set k (dif L[k] 0 c)) := by
 refine ⟨by rw [List.length_set]; exact h.len, low_set h.low _ _ (dif_lt _ _ _ (h.low _ (List.getElem_mem hk)) h.c1), brw_le _ _ _, ?_⟩
 have h1 := sub_step L k c 0 hk (by decide) h.c1
 have h2 := h.eq
 rw [List.take_of_length_le (by omega)] at h2 ⊢
 rw [Nat.zero_add] at h1
 omega

theorem MinusI.room {X Y : List Nat} {N k c : Nat} {L : List Nat} (h : MinusI X Y N k c L) (hle : val W2 Y ≤ val W2 X) (hy : Y.length ≤ k) (hc : c ≠ 0) : k < N := by
 rcases Nat.lt_or_ge k N with h1 | h1
 ·exact h1
 ·have h2 := h.eq
  rw [List.take_of_length_le hy] at h2
  have h3 := val_lt W2 (by decide) L h.low
  rw [h.len] at h3
  have h5 : W2 ^ N ≤ W2 ^ k := Nat.pow_le_pow_right (by decide) h1
  have h6 : 1 * W2 ^ k ≤ c * W2 ^ k := Nat.mul_le_mul_right _ (by omega)
  omega

theorem MinusI.done {X Y : List Nat} {N k : Nat} {L : List Nat} (h : MinusI X Y N k 0 L) (hy : Y.length ≤ k) : val W2 L = val W2 X - val W2 Y := by
 have := h.eq
 rw [List.take_of_length_le hy, Nat.zero_mul, Nat.add_zero] at this
 omega

set_option maxRecDepth 100000 in
set_option maxHeartbeats 2000000 in
theorem minus_core (va vb : Value) (A B : List Nat) (w : World) (ha : RowAt .u32 w va A) (hb : RowAt .u32 w vb B) (hA : Low W2 A) (hB : Low W2 B) (hl : B.length ≤ A.length) (hle : val W2 B ≤ val W2 A) (hlen : A.length ≤ 1048576) :
 Calls Try.prog 64 #[va, vb] w fun e w' => ∃ v, e = .returned v ∧ RowAt .u32 w' v (digs W2 (val W2 A - val W2 B)) ∧ Below w.heap.size w w' := by
 have HX0 := Lib.hid ha
 obtain ⟨ya, ycap, hvy, y1, y2, hyc⟩ := hb
 subst hvy
 have Hyc := Lib.hid hyc
 have HlA := Lib.hid hA
 have HlB := Lib.hid hB
 have Hle := Lib.hid hle
 clear hyc hA hB hle ha
 obtain ⟨N, hN⟩ : ∃ N, A.length = N := ⟨_, rfl⟩
 obtain ⟨M, hM⟩ : ∃ M, B.length = M := ⟨_, rfl⟩
 have HN := Lib.hid hN
 have HM := Lib.hid hM
 have Hcl := Lib.hid (wclone_any va A w HX0.out (by omega))
 rw [hN] at hlen hl Hcl
 rw [hM] at y1 hl ⊢
 clear hN hM
 go_enter Try.func64, Try.ntmps64
 go_wp2_with fail
 refine Hcl.out.mono ?_
 rintro e w1 ⟨rfl, hblk, hB1⟩
 obtain ⟨g, hg⟩ : ∃ g, w.heap.size = g := ⟨_, rfl⟩
 have Hg := Lib.hid hg
 rw [hg] at hblk hB1 ⊢
 have hz1 := hblk.lt
 have Hblk1 := Lib.hid hblk
 have HB1 := Lib.hid hB1
 clear hg hblk hB1 Hcl
 go_wp2_with fail
 obtain ⟨sb, hsb⟩ : ∃ sb, w1.heap.size = sb := ⟨_, rfl⟩
 have hgs : g < sb := by omega
 obtain ⟨w4, hw4⟩ : ∃ w4, (w1.alloc (.cells #[.slice (some ⟨g, 0, none⟩) N N] 56)).alloc (.cells #[.int .u64 0] 85) = w4 := ⟨_, rfl⟩
 have hcb0 := One.new (w1.alloc (.cells #[.slice (some ⟨g, 0, none⟩) N N] 56)) 85 (.int .u64 0)
 have hsb0 := (One.new w1 56 (.slice (some ⟨g, 0, none⟩) N N)).alloc (.cells #[.int .u64 0] 85)
 rw [World.size_alloc, hsb, hw4] at hcb0
 rw [hsb, hw4] at hsb0
 have Hb4 := Lib.hid ((Hblk1.out.alloc (.cells #[.slice (some ⟨g, 0, none⟩) N N] 56)).alloc (.cells #[.int .u64 0] 85))
 have HB4 := Lib.hid ((HB1.out.alloc (by omega) (.cells #[.slice (some ⟨g, 0, none⟩) N N] 56)).alloc (by simp; omega) (.cells #[.int .u64 0] 85))
 have Hcb4 := Lib.hid hcb0
 have Hsb4 := Lib.hid hsb0
 rw [hw4] at Hb4 HB4
 rw [hsb, hw4]
 clear hcb0 hsb0 hw4 hsb Hblk1 HB1 hz1
 have HI0 := Lib.hid (MinusI.start A B N HN.out HlA.out)
 go_loopw [16] (fun i wr => ∃ (k c : Nat) (L : List Nat), k ≤ M ∧ i = .int .i64 k ∧ Hid (MinusI A B N k c L) ∧ Hid (Blk wr g 88 .u32 L) ∧ Hid (One wr (sb + 1) 85 (.int .u64 (c : Int))) ∧ Hid (One wr sb 56 (.slice (some ⟨g, 0, none⟩) N N)) ∧ Hid (Below g w wr)) (fun i _ => M - (intOf i).toNat)
 case atStart => exact ⟨0, 0, _, by omega, rfl, HI0, Hb4, Hcb4, Hsb4, HB4⟩
 case round =>
  obtain ⟨k, c, L, hk, rfl, hI, hbl, hcb, hsb, hB⟩ := hrel
  have hgw := hbl.out.lt
  by_cases hlt : k < M
  ·have hy : k < B.length := by rw [HM.out]; exact hlt
   have hkl : k < L.length := by rw [hI.out.len]; omega
   obtain ⟨b, off, rfl, hb, hcc⟩ := Hyc.out (by omega)
   rw [Hg.out] at hb
   have cy := (hB.out.cell (p := ⟨b, off + k, none⟩) hb).trans (hcc k hy)
   have hyl : B[k] < 4294967296 := HlB.out _ (List.getElem_mem hy)
   have Hnext := Lib.hid (hI.out.next hkl hy HlB.out)
   have hc1 := hI.out.c1
   have Hp := Lib.hid (mpass_any k N g (sb + 1) sb c B[k] L wr hI.out.len hkl (by omega) hbl.out hcb.out hsb.out (by omega) (by omega) (by omega) hc1 hyl hI.out.low)
   clear hcc
   generalize B[k] = y at *
   go_wp2_with (go_at_call 91; refine Hp.out.mono ?_; rintro e w5 ⟨⟨v5, rfl⟩, q1, q2, q3, q4⟩; have Q1 := Lib.hid q1; have Q2 := Lib.hid q2; have Q3 := Lib.hid q3; have Q4 := Lib.hid q4; clear q1 q2 q3 q4)
   go_roundw
   case rel => exact ⟨k + 1, _, _, by omega, by go_num, Hnext, Q1, Q2, Q3, Lib.hid (Q4.out.below hB.out (by omega) (fun b e => by rcases e with e | e <;> omega))⟩
   case measure => simp [intOf]; omega
  ·obtain rfl : k = M := by omega
   clear hlt
   go_wp2_with fail
   obtain ⟨wo, rfl⟩ : ∃ wo : World, wo = wr := ⟨_, rfl⟩
   go_loopw [10] (fun i wr => ∃ (m c : Nat) (L : List Nat), k ≤ m ∧ m ≤ N ∧ i = .int .i64 m ∧ Hid (MinusI A B N m c L) ∧ Hid (Blk wr g 88 .u32 L) ∧ Hid (One wr (sb + 1) 85 (.int .u64 (c : Int))) ∧ Hid (One wr sb 56 (.slice (some ⟨g, 0, none⟩) N N)) ∧ Hid (Below g w wr)) (fun i _ => N - (intOf i).toNat)
   case atStart => exact ⟨k, c, L, Nat.le_refl _, by omega, rfl, hI, hbl, hcb, hsb, hB⟩
   case round =>
    clear hI hbl hcb hsb hB hgw
    obtain ⟨m, c2, L2, hm1, hm2, rfl, hI, hbl, hcb, hsb, hB⟩ := hrel
    have hgw := hbl.out.lt
    have ccb := hcb.out.cell
    have hYk : B.length ≤ m := by rw [HM.out]; exact hm1
    by_cases hc0 : c2 = 0
    ·subst hc0
     have csb := hsb.out.cell
     have hlen2 := hI.out.len
     have Htr := Lib.hid (trim_any (.slice (some ⟨g, 0, none⟩) N N) L2 wr (by
      have := RowAt.of_blk hbl.out (cap := N) (by omega) (by omega)
      rw [hlen2] at this
      exact this) hI.out.low (by omega))
     rw [hI.out.done hYk] at Htr
     clear hlen2
     go_wp2_with (go_at_call 58; refine Htr.out.mono ?_; rintro e w6 ⟨v6, rfl, q1, rfl⟩; have Q1 := Lib.hid q1; clear q1)
     go_ret
     exact ⟨_, rfl, Q1.out, by rw [Hg.out]; exact hB.out⟩
    ·have hmN := hI.out.room Hle.out hYk hc0
     have hkl : m < L2.length := by rw [hI.out.len]; omega
     have Hnext := Lib.hid (hI.out.over hkl hYk)
     have hc1 := hI.out.c1
     have Hp := Lib.hid (mpass_any m N g (sb + 1) sb c2 0 L2 wr hI.out.len hkl (by omega) hbl.out hcb.out hsb.out (by omega) (by omega) (by omega) hc1 (by omega) hI.out.low)
     have hcpos : 0 < c2 := by omega
     clear hc0
     go_wp2_with (go_at_call 91; refine Hp.out.mono ?_; rintro e w5 ⟨⟨v5, rfl⟩, q1, q2, q3, q4⟩; have Q1 := Lib.hid q1; have Q2 := Lib.hid q2; have Q3 := Lib.hid q3; have Q4 := Lib.hid q4; clear q1 q2 q3 q4)
     go_roundw
     case rel => exact ⟨m + 1, _, _, by omega, by omega, by go_num, Hnext, Q1, Q2, Q3, Lib.hid (Q4.out.below hB.out (by omega) (fun b e => by rcases e with e | e <;> omega))⟩
     case measure => simp [intOf]; omega

theorem minus_any (va vb : Value) (m n : Nat) (w : World) (ha : MagAt w va m) (hb : MagAt w vb n) (hle : n ≤ m) (hl1 : (digs W2 m).length ≤ 1048576) :
 Calls Try.prog 64 #[va, vb] w fun e w' => ∃ v, e = .returned v ∧ MagAt w' v (m - n) ∧ Below w.heap.size w w' := by
 have key := minus_core va vb _ _ w ha hb (digs_low W2 w2_two m) (digs_low W2 w2_two n) (digs_len_mono W2 w2_two n m hle) (by rw [val_digs W2 w2_two, val_digs W2 w2_two]; exact hle) hl1
 rw [val_digs W2 w2_two, val_digs W2 w2_two] at key
 exact key

end Go.Proofs.Ytlmbebbdamgfpaa
namespace Go.Proofs.Ytlmbebbdamgfpaa
open Go.RowKit

theorem cast_mod (t : Nat) : ((t % W2 : Nat) : Int) = (t : Int) % 4294967296 := by unfold W2; omega
theorem cast_div (t : Nat) : ((t / W2 : Nat) : Int) = (t : Int) / 4294967296 := by unfold W2; omega
theorem set_step (L : List Nat) (k t : Nat) (h : k < L.length) (hz : L[k] = 0) : val W2 (L.set k (t % W2)) + t / W2 * W2 ^ (k + 1) = val W2 L + t * W2 ^ k := by
 have h1 := val_set W2 L k (t % W2) h
 have h2 := Nat.div_add_mod t W2
 rw [hz] at h1
 rw [Nat.pow_succ]
 generalize t % W2 = r at *
 generalize t / W2 = q at *
 generalize W2 ^ k = p at *
 generalize val W2 L = v at *
 generalize val W2 (L.set k r) = v' at *
 generalize W2 = B at *
 grind

theorem mul_lt_w2 (x y : Nat) (hx : x < W2) (hy : y < W2) : x * y ≤ 18446744065119617025 := by
 have : x * y ≤ 4294967295 * 4294967295 := Nat.mul_le_mul (by unfold W2 at hx; omega) (by unfold W2 at hy; omega)
 omega

/-- between two rounds of scale -/
structure ScaleI (A : List Nat) (f s N k c : Nat) (L : List Nat) : Prop where
 len : L.length = N + 1
 low : Low W2 L
 c1 : c < W2
 zero : ∀ j (h : j < L.length), k ≤ j → L[j] = 0
 eq : val W2 L + c * W2 ^ k = val W2 (A.take k) * f + s

theorem ScaleI.start (A : List Nat) (f s N : Nat) (hs : s < W2) : ScaleI A f s N 0 s (List.replicate (N + 1) 0) :=
 ⟨by simp, fun x hx => by rw [(List.mem_replicate.1 hx).2]; decide, hs, fun j h _ => by simp, by rw [val_zeros W2 _ (fun x hx => (List.mem_replicate.1 hx).2)]; simp [val]⟩

theorem ScaleI.carry {A : List Nat} {f s N k c : Nat} {L : List Nat} (h : ScaleI A f s N k c L) (y : Nat) (hy : y < W2) (hf : f < W2) : (c + y * f) / W2 < W2 := by
 have h1 := mul_lt_w2 y f hy hf
 have h2 := h.c1
 apply (Nat.div_lt_iff_lt_mul (show 0 < W2 by decide)).2
 unfold W2 at *
 omega

theorem ScaleI.next {A : List Nat} {f s N k c : Nat} {L : List Nat} (h : ScaleI A f s N k c L) (hk : k < L.length) (ha : k < A.length) (hA : Low W2 A) (hf : f < W2) :
 ScaleI A f s N (k + 1) ((c + A[k] * f) / W2) (L.set k ((c + A[k] * f) % W2)) := by
 refine ⟨by rw [List.length_set]; exact h.len, low_set h.low _ _ (Nat.mod_lt _ (by decide)), h.carry _ (hA _ (List.getElem_mem ha)) hf, fun j hj hkj => ?_, ?_⟩
 ·rw [List.getElem_set_ne (by omega)]
  exact h.zero j (by rw [List.length_set] at hj; exact hj) (by omega)
 ·rw [set_step L k _ hk (h.zero k hk (Nat.le_refl _)), val_take_succ W2 A k ha]
  have := h.eq
  generalize W2 ^ k = p at *
  generalize val W2 (A.take k) = v at *
  generalize A[k] = y at *
  grind

theorem ScaleI.done {A : List Nat} {f s N c : Nat} {L : List Nat} (h : ScaleI A f s N N c L) (hN : A.length = N) : val W2 (L.set N c) = val W2 A * f + s ∧ Low W2 (L.set N c) := by
 have hl : N < L.length := by rw [h.len]; omega
 have h1 := val_set W2 L N c hl
 rw [h.zero N hl (Nat.le_refl _)] at h1
 have h2 := h.eq
 rw [List.take_of_length_le (by omega)] at h2
 exact ⟨by omega, low_set h.low _ _ h.c1⟩

theorem or_u64 (x y : Nat) (hx : x < 4294967296) (hy : y < 4294967296) : bits BinOp.or IntKind.u64 ((x : Int) * 4294967296) (y : Int) = ((x * 4294967296 + y : Nat) : Int) := by
 have h := u64_or_nat (x * 4294967296) y (by omega) (by omega)
 have e : (((x * 4294967296 : Nat)) : Int) = (x : Int) * 4294967296 := by omega
 rw [e] at h
 rw [h]
 have h2 : x * 2 ^ 32 ||| y = x * 2 ^ 32 + y := by rw [Nat.mul_comm, ← Nat.two_pow_add_eq_or_of_lt hy]
 exact congrArg Int.ofNat h2

theorem drop_set_at (L : List Nat) (k x : Nat) (h : k < L.length) : (L.set k x).drop k = x :: L.drop (k + 1) := by
 rw [List.drop_eq_getElem_cons (by rw [List.length_set]; exact h), List.getElem_set_self, List.drop_set_of_lt (by omega)]

/-- between two rounds of divideShort: the digits from k on are done -/
structure DivI (A : List Nat) (d N k r : Nat) (L : List Nat) : Prop where
 len : L.length = N
 low : Low W2 L
 r1 : r < d
 eq : val W2 (A.drop k) = d * val W2 (L.drop k) + r

theorem DivI.start (A : List Nat) (d N : Nat) (hN : A.length = N) (hd : 0 < d) : DivI A d N N 0 (List.replicate N 0) :=
 ⟨by simp, fun x hx => by rw [(List.mem_replicate.1 hx).2]; decide, hd, by rw [List.drop_of_length_le (by omega), List.drop_of_length_le (by simp)]; simp [val]⟩

theorem DivI.quo {A : List Nat} {d N k r : Nat} {L : List Nat} (h : DivI A d N k r L) (y : Nat) (hy : y < W2) : (r * W2 + y) / d < W2 := by
 have h1 := h.r1
 apply (Nat.div_lt_iff_lt_mul (by omega)).2
 have : (r + 1) * W2 ≤ d * W2 := Nat.mul_le_mul_right _ h1
 rw [Nat.add_mul, Nat.one_mul] at this
 rw [Nat.mul_comm W2 d]
 omega

theorem DivI.next {A : List Nat} {d N k r : Nat} {L : List Nat} (h : DivI A d N k r L) (hk : 0 < k) (h1 : k - 1 < L.length) (h2 : k - 1 < A.length) (hA : Low W2 A) :
 DivI A d N (k - 1) ((r * W2 + A[k - 1]) % d) (L.set (k - 1) ((r * W2 + A[k - 1]) / d)) := by
 refine ⟨by rw [List.length_set]; exact h.len, low_set h.low _ _ (h.quo _ (hA _ (List.getElem_mem h2))), Nat.mod_lt _ (by have := h.r1; omega), ?_⟩
 rw [drop_set_at L (k - 1) _ h1, List.drop_eq_getElem_cons h2, Nat.sub_add_cancel hk, val, val, h.eq]
 have := Nat.div_add_mod (r * W2 + A[k - 1]) d
 generalize (r * W2 + A[k - 1]) / d = q at *
 generalize (r * W2 + A[k - 1]) % d = m at *
 generalize A[k - 1] = y at *
 generalize val W2 (L.drop k) = v at *
 generalize W2 = B at *
 grind

theorem DivI.done {A : List Nat} {d N r : Nat} {L : List Nat} (h : DivI A d N 0 r L) : val W2 L = val W2 A / d ∧ r = val W2 A % d := by
 have h1 := h.eq
 have h2 := h.r1
 rw [List.drop_zero, List.drop_zero] at h1
 rw [h1]
 constructor
 ·rw [Nat.mul_add_div (by omega), Nat.div_eq_of_lt h2, Nat.add_zero]
 ·rw [Nat.mul_add_mod, Nat.mod_eq_of_lt h2]

end Go.Proofs.Ytlmbebbdamgfpaa
