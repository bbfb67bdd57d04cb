/- wide: times. -/
import Derived.Test.YtlmbebbdamgfpaaQHWPlus
import Derived.Laws.BitsAllLaws
import Derived.Laws.BitsLemmas
set_option linter.unusedVariables false
set_option linter.unusedSimpArgs false
set_option maxHeartbeats 4000000
set_option maxRecDepth 100000
namespace Go.Proofs.Ytlmbebbdamgfpaa
open Go.RowKit
def brw (s x br : Nat) : Nat := if s < x + br then 1 else 0
def dif (s x br : Nat) : Nat := s + brw s x br * W2 - x - br
theorem qJe (s x br : Nat) (hx : x < W2) (hbr : br <= 1) : dif s x br + x + br = s + brw s x br * W2 := by
 unfold dif brw
 split <;> (unfold W2 at *; omega)
theorem qHQ (s x br : Nat) (hs : s < W2) (hbr : br <= 1) : dif s x br < W2 := by
 unfold dif brw
 split <;> (unfold W2 at *; omega)
theorem qH1 (s x br : Nat) : brw s x br <= 1 := by unfold brw; split <;> omega
theorem qHP (s x br : Nat) (hs : s < W2) (hx : x < W2) (hbr : br <= 1) (T D : Int) (hT : T = ((s : Int) - x) % 18446744073709551616) (hD : D = (T - br) % 18446744073709551616) :
 D % 4294967296 = (dif s x br : Int) /\ D / 9223372036854775808 = (brw s x br : Int) := by
 unfold dif brw; unfold W2 at *
 split <;> omega
theorem qF9 (i N g cb sb c x : Nat) (L : List Nat) (w : World) (hL : L.length = N) (hi : i < L.length) (_hN : N <= 1099511627776) (hblk : Blk w g 88 .u32 L) (hcb : One w cb 85 (.int .u64 (c : Int))) (hsb : One w sb 56 (.slice (some ⟨g, 0, none⟩) N N))
 (h1 : cb ≠ g) (h2 : sb ≠ g) (h3 : sb ≠ cb) (hc : c <= 1) (hx : x < 4294967296) (hlow : Low W2 L) :
 Calls Try.prog 91 #[.int .i64 (i : Int), .int .u32 (x : Int), .pointer (some ⟨sb, 0, none⟩), .pointer (some ⟨cb, 0, none⟩)] w fun e w' => (∃ v, e = .returned v) /\
  Blk w' g 88 .u32 (L.set i (dif L[i] x c)) /\ One w' cb 85 (.int .u64 ((brw L[i] x c : Nat) : Int)) /\ One w' sb 56 (.slice (some ⟨g, 0, none⟩) N N) /\ qAc (fun k => k = g \/ k = cb) w w' := by
 have Hblk := hZ hblk; have Hcb := hZ hcb; have Hsb := hZ hsb; have e1 := hblk.cell i hi; have e2 := hblk.frozen i; have e3 := hcb.cell; have e4 := hcb.frozen; have e5 := hsb.cell; have hs : L[i] < 4294967296 := hlow _ (List.getElem_mem hi); clear hblk hcb hsb hlow; have hi2 : i < N := by omega
 have hi3 : (0 : Int) <= (i : Int) := by omega
 have hi4 : (i : Int) < (N : Int) := by omega
 have HL := hZ hL; clear hL; generalize hS : L[i] = s at *; have HS := hZ hS; clear hS; obtain ⟨T, hT⟩ : ∃ T : Int, T = ((s : Int) - x) % 18446744073709551616 := ⟨_, rfl⟩; obtain ⟨D, hD⟩ : ∃ D : Int, D = (T - c) % 18446744073709551616 := ⟨_, rfl⟩; have hdw := hZ (qHP s x c hs hx hc T D hT hD); have b1 : IntKind.u64.wrap ((s : Int) - x) = T := by rw [hT, IntKind.wrap_u64]
 have b2 : IntKind.u64.wrap (T - c) = D := by rw [hD, IntKind.wrap_u64]
 have hT0 : 0 <= T := by omega
 have hT1 : T <= 18446744073709551615 := by omega
 have hD0 : 0 <= D := by omega
 have hD1 : D <= 18446744073709551615 := by omega
 clear hT hD
 go_enter Try.func91, Try.ntmps91
 go_wp2
 go_quiet (fail)
 clear b1 b2
 go_wp2
 go_end0
 rw [hdw.o.1, hdw.o.2]; refine ⟨⟨_, rfl⟩, ?_, ?_, ?_, ?_⟩
 ·exact ((Hblk.o.set i _).far (p := ⟨cb, 0, none⟩) (Ne.symm h1) _).drewN _
 ·exact (((Hcb.o.far (p := ⟨g, i, none⟩) h1 _).set _)).drewN _
 ·exact ((Hsb.o.far (p := ⟨g, i, none⟩) h2 _).far (p := ⟨cb, 0, none⟩) h3 _).drewN _
 ·exact (((qAc.refl _ w).set (p := ⟨g, i, none⟩) (Or.inl rfl) _).set (p := ⟨cb, 0, none⟩) (Or.inr rfl) _).drewN _
structure qBZ (X Y : List Nat) (N k c : Nat) (L : List Nat) : Prop where
 len : L.length = N
 low : Low W2 L
 c1 : c <= 1
 eq : val W2 L + val W2 (Y.take k) = val W2 X + c * W2 ^ k
theorem qBZ.start (X Y : List Nat) (N : Nat) (hN : X.length = N) (hX : Low W2 X) : qBZ X Y N 0 0 X :=
 ⟨hN, hX, by omega, by simp [val]⟩
theorem qHu (L : List Nat) (k c x : Nat) (h : k < L.length) (hx : x < W2) (hc : c <= 1) : val W2 (L.set k (dif L[k] x c)) + (x + c) * W2 ^ k = val W2 L + brw L[k] x c * W2 ^ (k + 1) := by
 have h1 := qBh W2 L k (dif L[k] x c) h; have h2 := qJe L[k] x c hx hc; rw [Nat.pow_succ]; generalize dif L[k] x c = r at *; generalize brw L[k] x c = q at *; generalize W2 ^ k = p at *; generalize L[k] = s at *; generalize val W2 L = v at *; generalize val W2 (L.set k r) = v' at *; generalize W2 = B at *
 grind
theorem qBZ.next {X Y : List Nat} {N k c : Nat} {L : List Nat} (h : qBZ X Y N k c L) (hk : k < L.length) (hy : k < Y.length) (hY : Low W2 Y) :
 qBZ X Y N (k + 1) (brw L[k] Y[k] c) (L.set k (dif L[k] Y[k] c)) := by
 refine ⟨by rw [List.length_set]; exact h.len, qAP h.low _ _ (qHQ _ _ _ (h.low _ (List.getElem_mem hk)) h.c1), qH1 _ _ _, ?_⟩; have h1 := qHu L k c Y[k] hk (hY _ (List.getElem_mem hy)) h.c1; have h2 := h.eq; rw [qAf W2 Y k hy]; rw [Nat.add_mul] at h1; omega
theorem qBZ.over {X Y : List Nat} {N k c : Nat} {L : List Nat} (h : qBZ X Y N k c L) (hk : k < L.length) (hy : Y.length <= k) :
 qBZ X Y N (k + 1) (brw L[k] 0 c) (L.set k (dif L[k] 0 c)) := by
 refine ⟨by rw [List.length_set]; exact h.len, qAP h.low _ _ (qHQ _ _ _ (h.low _ (List.getElem_mem hk)) h.c1), qH1 _ _ _, ?_⟩; have h1 := qHu L k c 0 hk (by decide) h.c1; have h2 := h.eq; rw [List.take_of_length_le (by omega)] at h2 ⊢; rw [Nat.zero_add] at h1; omega
theorem qBZ.room {X Y : List Nat} {N k c : Nat} {L : List Nat} (h : qBZ X Y N k c L) (hle : val W2 Y <= val W2 X) (hy : Y.length <= k) (hc : c ≠ 0) : k < N := by
 rcases Nat.lt_or_ge k N with h1 | h1
 ·exact h1
 ·have h2 := h.eq
  rw [List.take_of_length_le hy] at h2; have h3 := qBk W2 (by decide) L h.low; rw [h.len] at h3; have h5 : W2 ^ N <= W2 ^ k := Nat.pow_le_pow_right (by decide) h1; have h6 : 1 * W2 ^ k <= c * W2 ^ k := Nat.mul_le_mul_right _ (by omega); omega
theorem qBZ.done {X Y : List Nat} {N k : Nat} {L : List Nat} (h : qBZ X Y N k 0 L) (hy : Y.length <= k) : val W2 L = val W2 X - val W2 Y := by
 have := h.eq; rw [List.take_of_length_le hy, Nat.zero_mul, Nat.add_zero] at this; omega
theorem qIl (va vb : Value) (A B : List Nat) (w : World) (ha : qAd .u32 w va A) (hb : qAd .u32 w vb B) (hA : Low W2 A) (hB : Low W2 B) (hl : B.length <= A.length) (hle : val W2 B <= val W2 A) (hlen : A.length <= 1048576) :
 Calls Try.prog 64 #[va, vb] w fun e w' => ∃ v, e = .returned v /\ qAd .u32 w' v (qAe W2 (val W2 A - val W2 B)) /\ Below w.heap.size w w' := by
 have HX0 := hZ ha; obtain ⟨ya, ycap, hvy, y1, y2, hyc⟩ := hb; subst hvy; have Hyc := hZ hyc; have HlA := hZ hA; have HlB := hZ hB; have Hle := hZ hle; clear hyc hA hB hle ha; obtain ⟨N, hN⟩ := eX A.length; obtain ⟨M, hM⟩ := eX B.length; have HN := hZ hN; have HM := hZ hM; have Hcl := hZ (qEO va A w HX0.o (by omega)); rw [hN] at hlen hl Hcl; rw [hM] at y1 hl ⊢; clear hN hM
 go_enter Try.func64, Try.ntmps64
 go_wp2_with fail
 refine Hcl.o.mono ?_; rintro e w1 ⟨rfl, hblk, hB1⟩; obtain ⟨g, hg⟩ := eX w.heap.size; have Hg := hZ hg; rw [hg] at hblk hB1 ⊢; have hz1 := hblk.lt; have Hblk1 := hZ hblk; have HB1 := hZ hB1; clear hg hblk hB1 Hcl
 go_wp2_with fail
 obtain ⟨sb, hsb⟩ := eX w1.heap.size; have hgs : g < sb := by omega
 obtain ⟨w4, hw4⟩ := eX ((w1.alloc (.cells #[.slice (some ⟨g, 0, none⟩) N N] 56)).alloc (.cells #[.int .u64 0] 85)); have hcb0 := One.new (w1.alloc (.cells #[.slice (some ⟨g, 0, none⟩) N N] 56)) 85 (.int .u64 0); have hsb0 := (One.new w1 56 (.slice (some ⟨g, 0, none⟩) N N)).alloc (.cells #[.int .u64 0] 85); rw [World.size_alloc, hsb, hw4] at hcb0; rw [hsb, hw4] at hsb0; have Hb4 := hZ ((Hblk1.o.alloc (.cells #[.slice (some ⟨g, 0, none⟩) N N] 56)).alloc (.cells #[.int .u64 0] 85)); have HB4 := hZ ((HB1.o.alloc (by omega) (.cells #[.slice (some ⟨g, 0, none⟩) N N] 56)).alloc (by simp; omega) (.cells #[.int .u64 0] 85)); have Hcb4 := hZ hcb0; have Hsb4 := hZ hsb0; rw [hw4] at Hb4 HB4; rw [hsb, hw4]; clear hcb0 hsb0 hw4 hsb Hblk1 HB1 hz1; have HI0 := hZ (qBZ.start A B N HN.o HlA.o)
 go_loopw [16] (fun i wr => ∃ (k c : Nat) (L : List Nat), k <= M /\ i = .int .i64 k /\ Hid (qBZ A B N k c L) /\ Hid (Blk wr g 88 .u32 L) /\ Hid (One wr (sb + 1) 85 (.int .u64 (c : Int))) /\ Hid (One wr sb 56 (.slice (some ⟨g, 0, none⟩) N N)) /\ Hid (Below g w wr)) (fun i _ => M - (intOf i).toNat)
 case atStart => exact ⟨0, 0, _, by omega, rfl, HI0, Hb4, Hcb4, Hsb4, HB4⟩
 case round =>
  obtain ⟨k, c, L, hk, rfl, hI, hbl, hcb, hsb, hB⟩ := hrel; have hgw := hbl.o.lt; by_cases hlt : k < M
  ·have hy : k < B.length := by rw [HM.o]; exact hlt
   have hkl : k < L.length := by rw [hI.o.len]; omega
   obtain ⟨b, off, rfl, hb, hcc⟩ := Hyc.o (by omega); rw [Hg.o] at hb; have cy := (hB.o.cell (p := ⟨b, off + k, none⟩) hb).trans (hcc k hy); have hyl : B[k] < 4294967296 := HlB.o _ (List.getElem_mem hy); have Hnext := hZ (hI.o.next hkl hy HlB.o); have hc1 := hI.o.c1; have Hp := hZ (qF9 k N g (sb + 1) sb c B[k] L wr hI.o.len hkl (by omega) hbl.o hcb.o hsb.o (by omega) (by omega) (by omega) hc1 hyl hI.o.low); clear hcc; generalize B[k] = y at *
   go_wp2_with (go_at_call 91; refine Hp.o.mono ?_; rintro e w5 ⟨⟨v5, rfl⟩, q1, q2, q3, q4⟩; have Q1 := hZ q1; have Q2 := hZ q2; have Q3 := hZ q3; have Q4 := hZ q4; clear q1 q2 q3 q4)
   go_roundw
   case rel => exact ⟨k + 1, _, _, by omega, by go_num, Hnext, Q1, Q2, Q3, hZ (Q4.o.below hB.o (by omega) (fun b e => by rcases e with e | e <;> omega))⟩
   case measure => simp [intOf]; omega
  ·obtain rfl : k = M := by omega
   clear hlt
   go_wp2_with fail
   obtain ⟨wo, rfl⟩ := eY wr
   go_loopw [10] (fun i wr => ∃ (m c : Nat) (L : List Nat), k <= m /\ m <= N /\ i = .int .i64 m /\ Hid (qBZ A B N m c L) /\ Hid (Blk wr g 88 .u32 L) /\ Hid (One wr (sb + 1) 85 (.int .u64 (c : Int))) /\ Hid (One wr sb 56 (.slice (some ⟨g, 0, none⟩) N N)) /\ Hid (Below g w wr)) (fun i _ => N - (intOf i).toNat)
   case atStart => exact ⟨k, c, L, Nat.le_refl _, by omega, rfl, hI, hbl, hcb, hsb, hB⟩
   case round =>
    clear hI hbl hcb hsb hB hgw; obtain ⟨m, c2, L2, hm1, hm2, rfl, hI, hbl, hcb, hsb, hB⟩ := hrel; have hgw := hbl.o.lt; have ccb := hcb.o.cell; have hYk : B.length <= m := by rw [HM.o]; exact hm1
    by_cases hc0 : c2 = 0
    ·subst hc0
     have csb := hsb.o.cell; have hlen2 := hI.o.len; have Htr := hZ (qB1 (.slice (some ⟨g, 0, none⟩) N N) L2 wr (by
      have := qAd.of_blk hbl.o (cap := N) (by omega) (by omega); rw [hlen2] at this; exact this) hI.o.low (by omega))
     rw [hI.o.done hYk] at Htr; clear hlen2
     go_wp2_with (go_at_call 58; refine Htr.o.mono ?_; rintro e w6 ⟨v6, rfl, q1, rfl⟩; have Q1 := hZ q1; clear q1)
     go_ret; exact ⟨_, rfl, Q1.o, by rw [Hg.o]; exact hB.o⟩
    ·have hmN := hI.o.room Hle.o hYk hc0
     have hkl : m < L2.length := by rw [hI.o.len]; omega
     have Hnext := hZ (hI.o.over hkl hYk); have hc1 := hI.o.c1; have Hp := hZ (qF9 m N g (sb + 1) sb c2 0 L2 wr hI.o.len hkl (by omega) hbl.o hcb.o hsb.o (by omega) (by omega) (by omega) hc1 (by omega) hI.o.low); have hcpos : 0 < c2 := by omega
     clear hc0
     go_wp2_with (go_at_call 91; refine Hp.o.mono ?_; rintro e w5 ⟨⟨v5, rfl⟩, q1, q2, q3, q4⟩; have Q1 := hZ q1; have Q2 := hZ q2; have Q3 := hZ q3; have Q4 := hZ q4; clear q1 q2 q3 q4)
     go_roundw
     case rel => exact ⟨m + 1, _, _, by omega, by omega, by go_num, Hnext, Q1, Q2, Q3, hZ (Q4.o.below hB.o (by omega) (fun b e => by rcases e with e | e <;> omega))⟩
     case measure => simp [intOf]; omega
theorem qEn (va vb : Value) (m n : Nat) (w : World) (ha : qAT w va m) (hb : qAT w vb n) (hle : n <= m) (hl1 : (qAe W2 m).length <= 1048576) :
 Calls Try.prog 64 #[va, vb] w fun e w' => ∃ v, e = .returned v /\ qAT w' v (m - n) /\ Below w.heap.size w w' := by
 have key := qIl va vb _ _ w ha hb (qAl W2 qAm m) (qAl W2 qAm n) (qAM W2 qAm n m hle) (by rw [qAi W2 qAm, qAi W2 qAm]; exact hle) hl1; rw [qAi W2 qAm, qAi W2 qAm] at key; exact key
open Go.RowKit
theorem qHX (t : Nat) : ((t % W2 : Nat) : Int) = (t : Int) % 4294967296 := by unfold W2; omega
theorem qHY (t : Nat) : ((t / W2 : Nat) : Int) = (t : Int) / 4294967296 := by unfold W2; omega
theorem qJE (L : List Nat) (k t : Nat) (h : k < L.length) (hz : L[k] = 0) : val W2 (L.set k (t % W2)) + t / W2 * W2 ^ (k + 1) = val W2 L + t * W2 ^ k := by
 have h1 := qBh W2 L k (t % W2) h; have h2 := Nat.div_add_mod t W2; rw [hz] at h1; rw [Nat.pow_succ]; generalize t % W2 = r at *; generalize t / W2 = q at *; generalize W2 ^ k = p at *; generalize val W2 L = v at *; generalize val W2 (L.set k r) = v' at *; generalize W2 = B at *
 grind
theorem qEm (x y : Nat) (hx : x < W2) (hy : y < W2) : x * y <= 18446744065119617025 := by
 have : x * y <= 4294967295 * 4294967295 := Nat.mul_le_mul (by unfold W2 at hx; omega) (by unfold W2 at hy; omega); omega
structure qDm (A : List Nat) (f s N k c : Nat) (L : List Nat) : Prop where
 len : L.length = N + 1
 low : Low W2 L
 c1 : c < W2
 zero : ∀ j (h : j < L.length), k <= j -> L[j] = 0
 eq : val W2 L + c * W2 ^ k = val W2 (A.take k) * f + s
theorem qDm.start (A : List Nat) (f s N : Nat) (hs : s < W2) : qDm A f s N 0 s (List.replicate (N + 1) 0) :=
 ⟨by simp, fun x hx => by rw [(List.mem_replicate.1 hx).2]; decide, hs, fun j h _ => by simp, by rw [qBo W2 _ (fun x hx => (List.mem_replicate.1 hx).2)]; simp [val]⟩
theorem qDm.carry {A : List Nat} {f s N k c : Nat} {L : List Nat} (h : qDm A f s N k c L) (y : Nat) (hy : y < W2) (hf : f < W2) : (c + y * f) / W2 < W2 := by
 have h1 := qEm y f hy hf; have h2 := h.c1; apply (Nat.div_lt_iff_lt_mul (show 0 < W2 by decide)).2; unfold W2 at *; omega
theorem qDm.next {A : List Nat} {f s N k c : Nat} {L : List Nat} (h : qDm A f s N k c L) (hk : k < L.length) (ha : k < A.length) (hA : Low W2 A) (hf : f < W2) :
 qDm A f s N (k + 1) ((c + A[k] * f) / W2) (L.set k ((c + A[k] * f) % W2)) := by
 refine ⟨by rw [List.length_set]; exact h.len, qAP h.low _ _ (Nat.mod_lt _ (by decide)), h.carry _ (hA _ (List.getElem_mem ha)) hf, fun j hj hkj => ?_, ?_⟩
 ·rw [List.getElem_set_ne (by omega)]
  exact h.zero j (by rw [List.length_set] at hj; exact hj) (by omega)
 ·rw [qJE L k _ hk (h.zero k hk (Nat.le_refl _)), qAf W2 A k ha]
  have := h.eq; generalize W2 ^ k = p at *; generalize val W2 (A.take k) = v at *; generalize A[k] = y at *
  grind
theorem qDm.done {A : List Nat} {f s N c : Nat} {L : List Nat} (h : qDm A f s N N c L) (hN : A.length = N) : val W2 (L.set N c) = val W2 A * f + s /\ Low W2 (L.set N c) := by
 have hl : N < L.length := by rw [h.len]; omega
 have h1 := qBh W2 L N c hl; rw [h.zero N hl (Nat.le_refl _)] at h1; have h2 := h.eq; rw [List.take_of_length_le (by omega)] at h2; exact ⟨by omega, qAP h.low _ _ h.c1⟩
theorem qIV (x y : Nat) (hx : x < 4294967296) (hy : y < 4294967296) : bits BinOp.or IntKind.u64 ((x : Int) * 4294967296) (y : Int) = ((x * 4294967296 + y : Nat) : Int) := by
 have h := u64_or_nat (x * 4294967296) y (by omega) (by omega); have e : (((x * 4294967296 : Nat)) : Int) = (x : Int) * 4294967296 := by omega
 rw [e] at h; rw [h]; have h2 : x * 2 ^ 32 ||| y = x * 2 ^ 32 + y := by rw [Nat.mul_comm, <- Nat.two_pow_add_eq_or_of_lt hy]
 exact congrArg Int.ofNat h2
theorem qHe (L : List Nat) (k x : Nat) (h : k < L.length) : (L.set k x).drop k = x :: L.drop (k + 1) := by
 rw [List.drop_eq_getElem_cons (by rw [List.length_set]; exact h), List.getElem_set_self, List.drop_set_of_lt (by omega)]
structure qJs (A : List Nat) (d N k r : Nat) (L : List Nat) : Prop where
 len : L.length = N
 low : Low W2 L
 r1 : r < d
 eq : val W2 (A.drop k) = d * val W2 (L.drop k) + r
theorem qJs.start (A : List Nat) (d N : Nat) (hN : A.length = N) (hd : 0 < d) : qJs A d N N 0 (List.replicate N 0) :=
 ⟨by simp, fun x hx => by rw [(List.mem_replicate.1 hx).2]; decide, hd, by rw [List.drop_of_length_le (by omega), List.drop_of_length_le (by simp)]; simp [val]⟩
theorem qJs.quo {A : List Nat} {d N k r : Nat} {L : List Nat} (h : qJs A d N k r L) (y : Nat) (hy : y < W2) : (r * W2 + y) / d < W2 := by
 have h1 := h.r1; apply (Nat.div_lt_iff_lt_mul (by omega)).2; have : (r + 1) * W2 <= d * W2 := Nat.mul_le_mul_right _ h1; rw [Nat.add_mul, Nat.one_mul] at this; rw [Nat.mul_comm W2 d]; omega
theorem qJs.next {A : List Nat} {d N k r : Nat} {L : List Nat} (h : qJs A d N k r L) (hk : 0 < k) (h1 : k - 1 < L.length) (h2 : k - 1 < A.length) (hA : Low W2 A) :
 qJs A d N (k - 1) ((r * W2 + A[k - 1]) % d) (L.set (k - 1) ((r * W2 + A[k - 1]) / d)) := by
 refine ⟨by rw [List.length_set]; exact h.len, qAP h.low _ _ (h.quo _ (hA _ (List.getElem_mem h2))), Nat.mod_lt _ (by have := h.r1; omega), ?_⟩; rw [qHe L (k - 1) _ h1, List.drop_eq_getElem_cons h2, Nat.sub_add_cancel hk, val, val, h.eq]; have := Nat.div_add_mod (r * W2 + A[k - 1]) d; generalize (r * W2 + A[k - 1]) / d = q at *; generalize (r * W2 + A[k - 1]) % d = m at *; generalize A[k - 1] = y at *; generalize val W2 (L.drop k) = v at *; generalize W2 = B at *
 grind
theorem qJs.done {A : List Nat} {d N r : Nat} {L : List Nat} (h : qJs A d N 0 r L) : val W2 L = val W2 A / d /\ r = val W2 A % d := by
 have h1 := h.eq; have h2 := h.r1; rw [List.drop_zero, List.drop_zero] at h1; rw [h1]; constructor
 ·rw [Nat.mul_add_div (by omega), Nat.div_eq_of_lt h2, Nat.add_zero]
 ·rw [Nat.mul_add_mod, Nat.mod_eq_of_lt h2]
open Go.RowKit
theorem qKa (L : List Nat) (k c x : Nat) (h : k < L.length) : val W2 (L.set k ((c + (x + L[k])) % W2)) + (c + (x + L[k])) / W2 * W2 ^ (k + 1) = val W2 L + (c + x) * W2 ^ k := by
 have := qCy L k c x h; rw [Nat.add_comm x L[k]]; exact this
structure qCA (A B : List Nat) (S k : Nat) (L : List Nat) : Prop where
 len : L.length = S
 low : Low W2 L
 zero : ∀ j (h : j < L.length), k + B.length <= j -> L[j] = 0
 eq : val W2 L = val W2 (A.take k) * val W2 B
structure qCP (A B : List Nat) (S k j c : Nat) (x : Nat) (L : List Nat) : Prop where
 len : L.length = S
 low : Low W2 L
 c1 : c < W2
 zero : ∀ i (h : i < L.length), k + B.length <= i -> L[i] = 0
 eq : val W2 L + c * W2 ^ (k + j) = val W2 (A.take k) * val W2 B + x * val W2 (B.take j) * W2 ^ k
theorem qCA.start (A B : List Nat) (S : Nat) : qCA A B S 0 (List.replicate S 0) :=
 ⟨by simp, fun x hx => by rw [(List.mem_replicate.1 hx).2]; decide, fun j h _ => by simp, by rw [qBo W2 _ (fun x hx => (List.mem_replicate.1 hx).2)]; simp [val]⟩
theorem qCA.inner {A B : List Nat} {S k : Nat} {L : List Nat} (h : qCA A B S k L) (x : Nat) : qCP A B S k 0 0 x L :=
 ⟨h.len, h.low, by decide, h.zero, by rw [h.eq]; simp [val]⟩
theorem qCA.skip {A B : List Nat} {S k : Nat} {L : List Nat} (h : qCA A B S k L) (hk : k < A.length) (hx : A[k] = 0) : qCA A B S (k + 1) L :=
 ⟨h.len, h.low, fun j hj hkj => h.zero j hj (by omega), by rw [h.eq, qAf W2 A k hk, hx]; simp⟩
theorem qCP.bound {A B : List Nat} {S k j c x : Nat} {L : List Nat} (h : qCP A B S k j c x L) (y : Nat) (hx : x < W2) (hy : y < W2) (i : Nat) (hi : i < L.length) : c + (x * y + L[i]) <= 18446744073709551615 := by
 have h1 := qEm x y hx hy; have h2 := h.c1; have h3 : L[i] < W2 := h.low _ (List.getElem_mem hi); unfold W2 at *; omega
theorem qCP.next {A B : List Nat} {S k j c x : Nat} {L : List Nat} (h : qCP A B S k j c x L) (hj : j < B.length) (hkj : k + j < L.length) (hB : Low W2 B) (hx : x < W2) :
 qCP A B S k (j + 1) ((c + (x * B[j] + L[k + j])) / W2) x (L.set (k + j) ((c + (x * B[j] + L[k + j])) % W2)) := by
 have hb := h.bound B[j] hx (hB _ (List.getElem_mem hj)) (k + j) hkj; refine ⟨by rw [List.length_set]; exact h.len, qAP h.low _ _ (Nat.mod_lt _ (by decide)), ?_, fun i hi hki => ?_, ?_⟩
 ·apply (Nat.div_lt_iff_lt_mul (show 0 < W2 by decide)).2
  unfold W2 at *; omega
 ·rw [List.getElem_set_ne (by omega)]
  exact h.zero i (by rw [List.length_set] at hi; exact hi) (by omega)
 ·have e := qKa L (k + j) c (x * B[j]) hkj
  rw [show k + (j + 1) = k + j + 1 by omega, e, qAf W2 B j hj]; have h1 := h.eq; rw [Nat.pow_add] at h1 ⊢; generalize W2 ^ k = p at *; generalize W2 ^ j = q at *; generalize val W2 (B.take j) = v at *; generalize B[j] = y at *
  grind
theorem qCP.done {A B : List Nat} {S k c : Nat} {L : List Nat} (hk : k < A.length) (h : qCP A B S k B.length c A[k] L) (hkj : k + B.length < L.length) : qCA A B S (k + 1) (L.set (k + B.length) c) := by
 refine ⟨by rw [List.length_set]; exact h.len, qAP h.low _ _ h.c1, fun i hi hki => ?_, ?_⟩
 ·rw [List.getElem_set_ne (by omega)]
  exact h.zero i (by rw [List.length_set] at hi; exact hi) (by omega)
 ·have e := qBh W2 L (k + B.length) c hkj
  rw [h.zero _ hkj (Nat.le_refl _)] at e; have h1 := h.eq; rw [List.take_of_length_le (Nat.le_refl _)] at h1; rw [qAf W2 A k hk]; generalize W2 ^ (k + B.length) = P at *; generalize W2 ^ k = p at *; generalize val W2 B = v at *; generalize A[k] = y at *
  grind
theorem qGA (c x y l : Nat) : ((c + (x * y + l) : Nat) : Int) = (c : Int) + ((x : Int) * (y : Int) + (l : Int)) := by rw [Int.natCast_add, Int.natCast_add, Int.natCast_mul]
theorem qIa (va vb : Value) (A B : List Nat) (w : World) (ha : qAd .u32 w va A) (hb : qAd .u32 w vb B) (hA : Low W2 A) (hB : Low W2 B) (hA0 : 0 < A.length) (hB0 : 0 < B.length) (hl1 : A.length <= 1048576) (hl2 : B.length <= 1048576) :
 Calls Try.prog 94 #[va, vb] w fun e w' => ∃ v, e = .returned v /\ qAd .u32 w' v (qAe W2 (val W2 A * val W2 B)) /\ Below w.heap.size w w' := by
 obtain ⟨i0, hi, hz0, hz1, hz2⟩ := info_parts qDS; have Hi := hZ hi; have Hz0 := hZ hz0; have Hz1 := hZ hz1; have Hz2 := hZ hz2; clear hi hz0 hz1 hz2; obtain ⟨xa, xcap, hvx, x1, x2, hxc⟩ := ha; obtain ⟨ya, ycap, hvy, y1, y2, hyc⟩ := hb; obtain ⟨xb, xoff, rfl, hxb, hxcc⟩ := hxc hA0; obtain ⟨yb, yoff, rfl, hyb, hycc⟩ := hyc hB0; subst hvx hvy; have Hxcc := hZ hxcc; have Hycc := hZ hycc; have HlA := hZ hA; have HlB := hZ hB; clear hyc hxc hA hB hxcc hycc; obtain ⟨N, hN⟩ := eX A.length; obtain ⟨M, hM⟩ := eX B.length; have HN := hZ hN; have HM := hZ hM; rw [hN] at x1 hl1 hA0; rw [hM] at y1 hl2 hB0; rw [hN, hM]; clear hN hM; have n0 : (N == 0) = false := by simp; omega
 have n1 : ((N : Int) == 0) = false := by simp; omega
 have m0 : (M == 0) = false := by simp; omega
 have m1 : ((M : Int) == 0) = false := by simp; omega
 go_enter Try.func94, Try.ntmps94
 go_wp2_with (at_make; refine qAy _ rfl _ _ 56 rfl 88 i0 .u32 Try.underlying56 Hi.o Hz0.o Hz1.o _ _ _ _ (N + M) rfl rfl (by omega) (by omega) (by rw [Hz2.o]; omega) (by omega) ?_)
 intro w1 hblk hB1 hz1; clear n0 n1 m0 m1; obtain ⟨g, hg⟩ := eX w.heap.size; have Hg := hZ hg; rw [hg] at hblk hB1 hz1 hxb hyb ⊢; have Hblk1 := hZ hblk; have HB1 := hZ hB1; clear hg hblk hB1
 go_wp2_with fail
 have HI0 := hZ (qCA.start A B (N + M))
 go_loopw [29] (fun i wr => ∃ (k : Nat) (L : List Nat), k <= N /\ i = .int .i64 k /\ Hid (qCA A B (N + M) k L) /\ Hid (Blk wr g 88 .u32 L) /\ Hid (Below g w wr)) (fun i _ => N - (intOf i).toNat)
 case atStart => exact ⟨0, _, by omega, rfl, HI0, Hblk1, HB1⟩
 case round =>
  obtain ⟨k, L, hk, rfl, hI, hbl, hB⟩ := hrel; have hgw := hbl.o.lt; by_cases hlt : k < N
  ·have hka : k < A.length := by rw [HN.o]; exact hlt
   have cx := (hB.o.cell (p := ⟨xb, xoff + k, none⟩) hxb).trans (Hxcc.o k hka); have hxl : A[k] < 4294967296 := HlA.o _ (List.getElem_mem hka); by_cases hx0 : A[k] = 0
   ·have Hs := hZ (hI.o.skip hka hx0)
    rw [hx0] at cx; clear hx0 hxl
    go_wp2_with fail
    go_roundw
    case rel => exact ⟨k + 1, L, by omega, by go_num, Hs, hbl, hB⟩
    case measure => simp [intOf]; omega
   ·have hxne : (((A[k] : Nat) : Int) == 0) = false := by simp only [beq_eq_false_iff_ne, ne_eq]; omega
    have HJ0 := hZ (hI.o.inner A[k]); obtain ⟨x, hx⟩ := eX (A[k]); have Hx := hZ hx; rw [hx] at cx hxl hxne HJ0; clear hx hx0
    go_wp2_with fail
    rw [show k + M + 1 - k = M + 1 by omega]; obtain ⟨wo, rfl⟩ := eY wr
    go_loopw [9, 48] (fun cv i wr => ∃ (j c : Nat) (L : List Nat), j <= M /\ c < 4294967296 /\ cv = .int .u64 (c : Int) /\ i = .int .i64 j /\ Hid (qCP A B (N + M) k j c x L) /\ Hid (Blk wr g 88 .u32 L) /\ Hid (Below g w wr)) (fun _ i _ => M - (intOf i).toNat)
    case atStart => exact ⟨0, 0, L, by omega, by omega, rfl, rfl, HJ0, hbl, hB⟩
    case round =>
     clear hI hbl hB HJ0 cx hgw; obtain ⟨j, c, L2, hj, hc, rfl, rfl, hJ, hbl, hB⟩ := hrel; have hgw := hbl.o.lt; by_cases hjl : j < M
     ·have hjb : j < B.length := by rw [HM.o]; exact hjl
      have hkj : k + j < L2.length := by rw [hJ.o.len]; omega
      have cy := (hB.o.cell (p := ⟨yb, yoff + j, none⟩) hyb).trans (Hycc.o j hjb); have hyl : B[j] < 4294967296 := HlB.o _ (List.getElem_mem hjb); have hbd := hJ.o.bound B[j] hxl hyl (k + j) hkj; have Hnext := hZ (hJ.o.next hjb hkj HlB.o hxl); have hmul := qEm x B[j] hxl hyl; have cg := hbl.o.cell (k + j) hkj; have fg := hbl.o.frozen (k + j); have hlo : L2[k + j] < 4294967296 := hJ.o.low _ (List.getElem_mem hkj); have hcn : (c + (x * B[j] + L2[k + j])) / W2 < W2 := Hnext.o.c1; generalize B[j] = y at *; generalize L2[k + j] = s at *; have m1 : (0 : Int) <= (x : Int) * (y : Int) := by rw [<- Int.natCast_mul]; omega
      have m2 : (x : Int) * (y : Int) <= 18446744065119617025 := by rw [<- Int.natCast_mul]; omega
      have hjr : j < M + 1 := by omega
      go_wp2_with fail
      go_roundw
      case rel =>
       have hr : (((c + (x * y + s)) % W2 : Nat) : Int) = ((c : Int) + ((x : Int) * (y : Int) + (s : Int))) % 4294967296 := by rw [qHX, qGA]
       have hq : (((c + (x * y + s)) / W2 : Nat) : Int) = ((c : Int) + ((x : Int) * (y : Int) + (s : Int))) / 4294967296 := by rw [qHY, qGA]
       rw [<- hr, <- hq]; exact ⟨j + 1, _, _, by omega, hcn, rfl, by go_num, Hnext, hZ (hbl.o.set (k + j) _), hZ (hB.o.setCell (p := ⟨g, k + j, none⟩) (Nat.le_refl _) _)⟩
      case measure => simp [intOf]; omega
     ·obtain rfl : j = M := by omega
      clear hjl; have hkj : k + j < L2.length := by rw [hJ.o.len]; omega
      have cg := hbl.o.cell (k + j) hkj; have fg := hbl.o.frozen (k + j); have Hdone : Hid (qCA A B (N + j) (k + 1) (L2.set (k + j) c)) := hZ (by
       have hJ2 := hJ.o; rw [<- Hx.o, <- HM.o] at hJ2; have := qCP.done hka hJ2 (by rw [HM.o]; exact hkj); rw [HM.o] at this; exact this)
      have hjr : j < j + 1 := by omega
      go_wp2_with fail
      go_roundw
      case rel => exact ⟨k + 1, _, by omega, by go_num, Hdone, hZ (hbl.o.set (k + j) _), hZ (hB.o.setCell (p := ⟨g, k + j, none⟩) (Nat.le_refl _) _)⟩
      case measure => simp [intOf]; omega
  ·obtain rfl : k = N := by omega
   clear hlt; have hlen2 := hI.o.len; have hv : val W2 L = val W2 A * val W2 B := by
    have := hI.o.eq; rw [List.take_of_length_le (by rw [HN.o]; exact Nat.le_refl _)] at this; exact this
   have Htr := hZ (qB1 (.slice (some ⟨g, 0, none⟩) (k + M) (k + M)) L wr (by
    have := qAd.of_blk hbl.o (cap := k + M) (by omega) (by omega); rw [hlen2] at this; exact this) hI.o.low (by omega))
   rw [hv] at Htr; clear hlen2 hv
   go_wp2_with (go_at_call 58; refine Htr.o.mono ?_; rintro e w6 ⟨v6, rfl, q1, rfl⟩; have Q1 := hZ q1; clear q1)
   go_ret; exact ⟨_, rfl, Q1.o, by rw [Hg.o]; exact hB.o⟩
theorem qH9 (a : Option Addr) (cap : Nat) (_hc : cap <= 9223372036854775807) (vb : Value) (w : World) :
 Calls Try.prog 94 #[.slice a 0 cap, vb] w fun e w' => e = .returned (.slice none 0 0) /\ w = w' := by
 go_enter Try.func94, Try.ntmps94
 go_wp2
 go_ret; exact ⟨rfl, rfl⟩
theorem qH8 (a b : Option Addr) (n cap cap' : Nat) (hn : 0 < n) (_hn2 : n <= 1048576) (_hc : cap <= 9223372036854775807) (_hc' : cap' <= 9223372036854775807) (w : World) :
 Calls Try.prog 94 #[.slice a n cap, .slice b 0 cap'] w fun e w' => e = .returned (.slice none 0 0) /\ w = w' := by
 have n0 : (n == 0) = false := by simp; omega
 have n1 : ((n : Int) == 0) = false := by simp; omega
 go_enter Try.func94, Try.ntmps94
 go_wp2
 go_ret; exact ⟨rfl, rfl⟩
theorem qIF (va vb : Value) (m n : Nat) (w : World) (ha : qAT w va m) (hb : qAT w vb n) (hl1 : (qAe W2 m).length <= 1048576) (hl2 : (qAe W2 n).length <= 1048576) :
 Calls Try.prog 94 #[va, vb] w fun e w' => ∃ v, e = .returned v /\ qAT w' v (m * n) /\ Below w.heap.size w w' := by
 by_cases hm : m = 0
 ·subst hm
  obtain ⟨a, cap, rfl, _, hc, _⟩ := ha; refine (qH9 a cap hc vb w).mono ?_; rintro e w' ⟨rfl, rfl⟩; refine ⟨_, rfl, ?_, Below.refl _ _⟩; rw [Nat.zero_mul]; exact qAd.nil none 0 (by omega)
 ·have hm1 : 0 < (qAe W2 m).length := List.length_pos_iff.2 (fun h => hm ((qBM W2 m qAm).1 h))
  by_cases hn : n = 0
  ·subst hn
   obtain ⟨a, cap, rfl, _, hc, _⟩ := ha; obtain ⟨b, cap', rfl, _, hc', _⟩ := hb; refine (qH8 a b _ cap cap' hm1 hl1 hc hc' w).mono ?_; rintro e w' ⟨rfl, rfl⟩; refine ⟨_, rfl, ?_, Below.refl _ _⟩; rw [Nat.mul_zero]; exact qAd.nil none 0 (by omega)
  ·have hn1 : 0 < (qAe W2 n).length := List.length_pos_iff.2 (fun h => hn ((qBM W2 n qAm).1 h))
   have key := qIa va vb _ _ w ha hb (qAl W2 qAm m) (qAl W2 qAm n) hm1 hn1 hl1 hl2; rw [qAi W2 qAm, qAi W2 qAm] at key; exact key
end Go.Proofs.Ytlmbebbdamgfpaa
