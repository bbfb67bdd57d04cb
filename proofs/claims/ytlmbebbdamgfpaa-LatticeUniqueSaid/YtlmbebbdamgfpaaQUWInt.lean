/- wide: Int: signed, limited, From, Mul, Neg. -/
import Derived.Test.YtlmbebbdamgfpaaQUWDivS
import Derived.Deep.RegionHeld3
set_option linter.unusedVariables false
set_option linter.unusedSimpArgs false
namespace Go.Proofs.Ytlmbebbdamgfpaa
open Go.RowKit

theorem acc_step (L : List Nat) (k c x : Nat) (h : k < L.length) : val W2 (L.set k ((c + (x + L[k])) % W2)) + (c + (x + L[k])) / W2 * W2 ^ (k + 1) = val W2 L + (c + x) * W2 ^ k := by
 have := pass_step L k c x h
 rw [Nat.add_comm x L[k]]
 exact this

/-- between two rows -/
structure TimesI (A B : List Nat) (S k : Nat) (L : List Nat) : Prop where
 len : L.length = S
 low : Low W2 L
 zero : ∀ j (h : j < L.length), k + B.length ≤ j → L[j] = 0
 eq : val W2 L = val W2 (A.take k) * val W2 B

/-- inside a row -/
structure TimesJ (A B : List Nat) (S k j c : Nat) (x : Nat) (L : List Nat) : Prop where
 len : L.length = S
 low : Low W2 L
 c1 : c < W2
 zero : ∀ i (h : i < L.length), k + B.length ≤ i → L[i] = 0
 eq : val W2 L + c * W2 ^ (k + j) = val W2 (A.take k) * val W2 B + x * val W2 (B.take j) * W2 ^ k

theorem TimesI.start (A B : List Nat) (S : Nat) : TimesI A B S 0 (List.replicate S 0) :=
 ⟨by simp, fun x hx => by rw [(List.mem_replicate.1 hx).2]; decide, fun j h _ => by simp, by rw [val_zeros W2 _ (fun x hx => (List.mem_replicate.1 hx).2)]; simp [val]⟩

theorem TimesI.inner {A B : List Nat} {S k : Nat} {L : List Nat} (h : TimesI A B S k L) (x : Nat) : TimesJ A B S k 0 0 x L :=
 ⟨h.len, h.low, by decide, h.zero, by rw [h.eq]; simp [val]⟩

theorem TimesI.skip {A B : List Nat} {S k : Nat} {L : List Nat} (h : TimesI A B S k L) (hk : k < A.length) (hx : A[k] = 0) : TimesI A B S (k + 1) L :=
 ⟨h.len, h.low, fun j hj hkj => h.zero j hj (by omega), by rw [h.eq, val_take_succ W2 A k hk, hx]; simp⟩

theorem TimesJ.bound {A B : List Nat} {S k j c x : Nat} {L : List Nat} (h : TimesJ A B S k j c x L) (y : Nat) (hx : x < W2) (hy : y < W2) (i : Nat) (hi : i < L.length) : c + (x * y + L[i]) ≤ 18446744073709551615 := by
 have h1 := mul_lt_w2 x y hx hy
 have h2 := h.c1
 have h3 : L[i] < W2 := h.low _ (List.getElem_mem hi)
 unfold W2 at *
 omega

theorem TimesJ.next {A B : List Nat} {S k j c x : Nat} {L : List Nat} (h : TimesJ A B S k j c x L) (hj : j < B.length) (hkj : k + j < L.length) (hB : Low W2 B) (hx : x < W2) :
 TimesJ A B S k (j + 1) ((c + (x * B[j] + L[k + j])) / W2) x (L.set (k + j) ((c + (x * B[j] + L[k + j])) % W2)) := by
 have hb := h.bound B[j] hx (hB _ (List.getElem_mem hj)) (k + j) hkj
 refine ⟨by rw [List.length_set]; exact h.len, low_set h.low _ _ (Nat.mod_lt _ (by decide)), ?_, fun i hi hki => ?_, ?_⟩
 ·apply (Nat.div_lt_iff_lt_mul (show 0 < W2 by decide)).2
  unfold W2 at *
  omega
 ·rw [List.getElem_set_ne (by omega)]
  exact h.zero i (by rw [List.length_set] at hi; exact hi) (by omega)
 ·have e := acc_step L (k + j) c (x * B[j]) hkj
  rw [show k + (j + 1) = k + j + 1 by omega, e, val_take_succ W2 B j hj]
  have h1 := h.eq
  rw [Nat.pow_add] at h1 ⊢
  generalize W2 ^ k = p at *
  generalize W2 ^ j = q at *
  generalize val W2 (B.take j) = v at *
  generalize B[j] = y at *
  grind

theorem TimesJ.done {A B : List Nat} {S k c : Nat} {L : List Nat} (hk : k < A.length) (h : TimesJ A B S k B.length c A[k] L) (hkj : k + B.length < L.length) : TimesI A B S (k + 1) (L.set (k + B.length) c) := by
 refine ⟨by rw [List.length_set]; exact h.len, low_set h.low _ _ h.c1, fun i hi hki => ?_, ?_⟩
 ·rw [List.getElem_set_ne (by omega)]
  exact h.zero i (by rw [List.length_set] at hi; exact hi) (by omega)
 ·have e := val_set W2 L (k + B.length) c hkj
  rw [h.zero _ hkj (Nat.le_refl _)] at e
  have h1 := h.eq
  rw [List.take_of_length_le (Nat.le_refl _)] at h1
  rw [val_take_succ W2 A k hk]
  generalize W2 ^ (k + B.length) = P at *
  generalize W2 ^ k = p at *
  generalize val W2 B = v at *
  generalize A[k] = y at *
  grind

theorem cast_cxyl (c x y l : Nat) : ((c + (x * y + l) : Nat) : Int) = (c : Int) + ((x : Int) * (y : Int) + (l : Int)) := by rw [Int.natCast_add, Int.natCast_add, Int.natCast_mul]

set_option maxRecDepth 100000 in
set_option maxHeartbeats 4000000 in
theorem times_core (va vb : Value) (A B : List Nat) (w : World) (ha : RowAt .u32 w va A) (hb : RowAt .u32 w vb B) (hA : Low W2 A) (hB : Low W2 B) (hA0 : 0 < A.length) (hB0 : 0 < B.length) (hl1 : A.length ≤ 1048576) (hl2 : B.length ≤ 1048576) :
 Calls Try.prog 94 #[va, vb] w fun e w' => ∃ v, e = .returned v ∧ RowAt .u32 w' v (digs W2 (val W2 A * val W2 B)) ∧ Below w.heap.size w w' := by
 obtain ⟨i0, hi, hz0, hz1, hz2⟩ := info_parts info32
 have Hi := Lib.hid hi
 have Hz0 := Lib.hid hz0
 have Hz1 := Lib.hid hz1
 have Hz2 := Lib.hid hz2
 clear hi hz0 hz1 hz2
 obtain ⟨xa, xcap, hvx, x1, x2, hxc⟩ := ha
 obtain ⟨ya, ycap, hvy, y1, y2, hyc⟩ := hb
 obtain ⟨xb, xoff, rfl, hxb, hxcc⟩ := hxc hA0
 obtain ⟨yb, yoff, rfl, hyb, hycc⟩ := hyc hB0
 subst hvx hvy
 have Hxcc := Lib.hid hxcc
 have Hycc := Lib.hid hycc
 have HlA := Lib.hid hA
 have HlB := Lib.hid hB
 clear hyc hxc hA hB hxcc hycc
 obtain ⟨N, hN⟩ : ∃ N, A.length = N := ⟨_, rfl⟩
 obtain ⟨M, hM⟩ : ∃ M, B.length = M := ⟨_, rfl⟩
 have HN := Lib.hid hN
 have HM := Lib.hid hM
 rw [hN] at x1 hl1 hA0
 rw [hM] at y1 hl2 hB0
 rw [hN, hM]
 clear hN hM
 have n0 : (N == 0) = false := by simp; omega
 have n1 : ((N : Int) == 0) = false := by simp; omega
 have m0 : (M == 0) = false := by simp; omega
 have m1 : ((M : Int) == 0) = false := by simp; omega
 go_enter Try.func94, Try.ntmps94
 go_wp2_with (at_make; refine wpList_make_blk _ rfl _ _ 56 rfl 88 i0 .u32 Try.underlying56 Hi.out Hz0.out Hz1.out _ _ _ _ (N + M) rfl rfl (by omega) (by omega) (by rw [Hz2.out]; omega) (by omega) ?_)
 intro w1 hblk hB1 hz1
 clear n0 n1 m0 m1
 obtain ⟨g, hg⟩ : ∃ g, w.heap.size = g := ⟨_, rfl⟩
 have Hg := Lib.hid hg
 rw [hg] at hblk hB1 hz1 hxb hyb ⊢
 have Hblk1 := Lib.hid hblk
 have HB1 := Lib.hid hB1
 clear hg hblk hB1
 go_wp2_with fail
 have HI0 := Lib.hid (TimesI.start A B (N + M))
 go_loopw [29] (fun i wr => ∃ (k : Nat) (L : List Nat), k ≤ N ∧ i = .int .i64 k ∧ Hid (TimesI A B (N + M) k L) ∧ Hid (Blk wr g 88 .u32 L) ∧ Hid (Below g w wr)) (fun i _ => N - (intOf i).toNat)
 case atStart => exact ⟨0, _, by omega, rfl, HI0, Hblk1, HB1⟩
 case round =>
  obtain ⟨k, L, hk, rfl, hI, hbl, hB⟩ := hrel
  have hgw := hbl.out.lt
  by_cases hlt : k < N
  ·have hka : k < A.length := by rw [HN.out]; exact hlt
   have cx := (hB.out.cell (p := ⟨xb, xoff + k, none⟩) hxb).trans (Hxcc.out k hka)
   have hxl : A[k] < 4294967296 := HlA.out _ (List.getElem_mem hka)
   by_cases hx0 : A[k] = 0
   ·have Hs := Lib.hid (hI.out.skip hka hx0)
    rw [hx0] at cx
    clear hx0 hxl
    go_wp2_with fail
    go_roundw
    case rel => exact ⟨k + 1, L, by omega, by go_num, Hs, hbl, hB⟩
    case measure => simp [intOf]; omega
   ·have hxne : (((A[k] : Nat) : Int) == 0) = false := by simp only [beq_eq_false_iff_ne, ne_eq]; omega
    have HJ0 := Lib.hid (hI.out.inner A[k])
    obtain ⟨x, hx⟩ : ∃ x, A[k] = x := ⟨_, rfl⟩
    have Hx := Lib.hid hx
    rw [hx] at cx hxl hxne HJ0
    clear hx hx0
    go_wp2_with fail
    rw [show k + M + 1 - k = M + 1 by omega]
    obtain ⟨wo, rfl⟩ : ∃ wo : World, wo = wr := ⟨_, rfl⟩
    go_loopw [9, 48] (fun cv i wr => ∃ (j c : Nat) (L : List Nat), j ≤ M ∧ c < 4294967296 ∧ cv = .int .u64 (c : Int) ∧ i = .int .i64 j ∧ Hid (TimesJ A B (N + M) k j c x L) ∧ Hid (Blk wr g 88 .u32 L) ∧ Hid (Below g w wr)) (fun _ i _ => M - (intOf i).toNat)
    case atStart => exact ⟨0, 0, L, by omega, by omega, rfl, rfl, HJ0, hbl, hB⟩
    case round =>
     clear hI hbl hB HJ0 cx hgw
     obtain ⟨j, c, L2, hj, hc, rfl, rfl, hJ, hbl, hB⟩ := hrel
     have hgw := hbl.out.lt
     by_cases hjl : j < M
     ·have hjb : j < B.length := by rw [HM.out]; exact hjl
      have hkj : k + j < L2.length := by rw [hJ.out.len]; omega
      have cy := (hB.out.cell (p := ⟨yb, yoff + j, none⟩) hyb).trans (Hycc.out j hjb)
      have hyl : B[j] < 4294967296 := HlB.out _ (List.getElem_mem hjb)
      have hbd := hJ.out.bound B[j] hxl hyl (k + j) hkj
      have Hnext := Lib.hid (hJ.out.next hjb hkj HlB.out hxl)
      have hmul := mul_lt_w2 x B[j] hxl hyl
      have cg := hbl.out.cell (k + j) hkj
      have fg := hbl.out.frozen (k + j)
      have hlo : L2[k + j] < 4294967296 := hJ.out.low _ (List.getElem_mem hkj)
      have hcn : (c + (x * B[j] + L2[k + j])) / W2 < W2 := Hnext.out.c1
      generalize B[j] = y at *
      generalize L2[k + j] = s at *
      have m1 : (0 : Int) ≤ (x : Int) * (y : Int) := by rw [← Int.natCast_mul]; omega
      have m2 : (x : Int) * (y : Int) ≤ 18446744065119617025 := by rw [← Int.natCast_mul]; omega
      have hjr : j < M + 1 := by omega
      go_wp2_with fail
      go_roundw
      case rel =>
       have hr : (((c + (x * y + s)) % W2 : Nat) : Int) = ((c : Int) + ((x : Int) * (y : Int) + (s : Int))) % 4294967296 := by rw [cast_mod, cast_cxyl]
       have hq : (((c + (x * y + s)) / W2 : Nat) : Int) = ((c : Int) + ((x : Int) * (y : Int) + (s : Int))) / 4294967296 := by rw [cast_div, cast_cxyl]
       rw [← hr, ← hq]
       exact ⟨j + 1, _, _, by omega, hcn, rfl, by go_num, Hnext, Lib.hid (hbl.out.set (k + j) _), Lib.hid (hB.out.setCell (p := ⟨g, k + j, none⟩) (Nat.le_refl _) _)⟩
      case measure => simp [intOf]; omega
     ·obtain rfl : j = M := by omega
      clear hjl
      have hkj : k + j < L2.length := by rw [hJ.out.len]; omega
      have cg := hbl.out.cell (k + j) hkj
      have fg := hbl.out.frozen (k + j)
      have Hdone : Hid (TimesI A B (N + j) (k + 1) (L2.set (k + j) c)) := Lib.hid (by
       have hJ2 := hJ.out
       rw [← Hx.out, ← HM.out] at hJ2
       have := TimesJ.done hka hJ2 (by rw [HM.out]; exact hkj)
       rw [HM.out] at this
       exact this)
      have hjr : j < j + 1 := by omega
      go_wp2_with fail
      go_roundw
      case rel => exact ⟨k + 1, _, by omega, by go_num, Hdone, Lib.hid (hbl.out.set (k + j) _), Lib.hid (hB.out.setCell (p := ⟨g, k + j, none⟩) (Nat.le_refl _) _)⟩
      case measure => simp [intOf]; omega
  ·obtain rfl : k = N := by omega
   clear hlt
   have hlen2 := hI.out.len
   have hv : val W2 L = val W2 A * val W2 B := by
    have := hI.out.eq
    rw [List.take_of_length_le (by rw [HN.out]; exact Nat.le_refl _)] at this
    exact this
   have Htr := Lib.hid (trim_any (.slice (some ⟨g, 0, none⟩) (k + M) (k + M)) L wr (by
    have := RowAt.of_blk hbl.out (cap := k + M) (by omega) (by omega)
    rw [hlen2] at this
    exact this) hI.out.low (by omega))
   rw [hv] at Htr
   clear hlen2 hv
   go_wp2_with (go_at_call 58; refine Htr.out.mono ?_; rintro e w6 ⟨v6, rfl, q1, rfl⟩; have Q1 := Lib.hid q1; clear q1)
   go_ret
   exact ⟨_, rfl, Q1.out, by rw [Hg.out]; exact hB.out⟩

theorem times_nil1 (a : Option Addr) (cap : Nat) (_hc : cap ≤ 9223372036854775807) (vb : Value) (w : World) :
 Calls Try.prog 94 #[.slice a 0 cap, vb] w fun e w' => e = .returned (.slice none 0 0) ∧ w = w' := by
 go_enter Try.func94, Try.ntmps94
 go_wp2
 go_ret
 exact ⟨rfl, rfl⟩

theorem times_nil2 (a b : Option Addr) (n cap cap' : Nat) (hn : 0 < n) (_hn2 : n ≤ 1048576) (_hc : cap ≤ 9223372036854775807) (_hc' : cap' ≤ 9223372036854775807) (w : World) :
 Calls Try.prog 94 #[.slice a n cap, .slice b 0 cap'] w fun e w' => e = .returned (.slice none 0 0) ∧ w = w' := by
 have n0 : (n == 0) = false := by simp; omega
 have n1 : ((n : Int) == 0) = false := by simp; omega
 go_enter Try.func94, Try.ntmps94
 go_wp2
 go_ret
 exact ⟨rfl, rfl⟩

theorem times_any (va vb : Value) (m n : Nat) (w : World) (ha : MagAt w va m) (hb : MagAt w vb n) (hl1 : (digs W2 m).length ≤ 1048576) (hl2 : (digs W2 n).length ≤ 1048576) :
 Calls Try.prog 94 #[va, vb] w fun e w' => ∃ v, e = .returned v ∧ MagAt w' v (m * n) ∧ Below w.heap.size w w' := by
 by_cases hm : m = 0
 ·subst hm
  obtain ⟨a, cap, rfl, _, hc, _⟩ := ha
  refine (times_nil1 a cap hc vb w).mono ?_
  rintro e w' ⟨rfl, rfl⟩
  refine ⟨_, rfl, ?_, Below.refl _ _⟩
  rw [Nat.zero_mul]
  exact RowAt.nil none 0 (by omega)
 ·have hm1 : 0 < (digs W2 m).length := List.length_pos_iff.2 (fun h => hm ((digs_nil W2 m w2_two).1 h))
  by_cases hn : n = 0
  ·subst hn
   obtain ⟨a, cap, rfl, _, hc, _⟩ := ha
   obtain ⟨b, cap', rfl, _, hc', _⟩ := hb
   refine (times_nil2 a b _ cap cap' hm1 hl1 hc hc' w).mono ?_
   rintro e w' ⟨rfl, rfl⟩
   refine ⟨_, rfl, ?_, Below.refl _ _⟩
   rw [Nat.mul_zero]
   exact RowAt.nil none 0 (by omega)
  ·have hn1 : 0 < (digs W2 n).length := List.length_pos_iff.2 (fun h => hn ((digs_nil W2 n w2_two).1 h))
   have key := times_core va vb _ _ w ha hb (digs_low W2 w2_two m) (digs_low W2 w2_two n) hm1 hn1 hl1 hl2
   rw [val_digs W2 w2_two, val_digs W2 w2_two] at key
   exact key

end Go.Proofs.Ytlmbebbdamgfpaa
namespace Go.Proofs.Ytlmbebbdamgfpaa
open Go.RowKit

def LIM : Nat := 2 ^ 16384
theorem lim_w2 : W2 ^ 512 = LIM := by decide +kernel
theorem lim_eq : LIM = 2 ^ 16384 := by unfold LIM; with_reducible rfl
attribute [irreducible] LIM

theorem lim_len (n : Nat) : (digs W2 n).length ≤ 512 ↔ n < LIM := by
 rw [← lim_w2]
 constructor
 ·intro h
  rcases Nat.lt_or_ge n (W2 ^ 512) with h1 | h1
  ·exact h1
  ·have := digs_len_ge W2 w2_two 512 n h1; omega
 ·exact digs_len_le W2 w2_two 512 n

/-- an integer of the package -/
def WInt (w : World) (v : Value) (z : Int) : Prop := ∃ vw, v = .agg #[.bool (decide (z < 0)), vw] ∧ MagAt w vw z.natAbs

theorem WInt.below {w w' : World} {v : Value} {z : Int} (h : WInt w v z) (hb : Below w.heap.size w w') : WInt w' v z := by
 obtain ⟨vw, hv, hm⟩ := h
 exact ⟨vw, hv, hm.below (Nat.le_refl _) hb⟩

theorem WInt.below' {w w' : World} {v : Value} {z : Int} {B : Nat} (h : WInt w v z) (hB : w.heap.size ≤ B) (hb : Below B w w') : WInt w' v z := by
 obtain ⟨vw, hv, hm⟩ := h
 exact ⟨vw, hv, hm.below hB hb⟩

theorem WInt.mk {w : World} {b : Bool} {vw : Value} {z : Int} (hb : decide (z < 0) = b) (hm : MagAt w vw z.natAbs) : WInt w (.agg #[.bool b, vw]) z := ⟨vw, by rw [hb], hm⟩
theorem WInt.form {w : World} {v : Value} {z : Int} (h : WInt w v z) : ∃ a n cap, v = .agg #[.bool (decide (z < 0)), .slice a n cap] ∧ MagAt w (.slice a n cap) z.natAbs := by
 obtain ⟨vw, hv, hm⟩ := h
 have hm' := hm
 obtain ⟨a, cap, rfl, _⟩ := hm
 exact ⟨a, _, cap, hv, hm'⟩

def sgn (neg : Bool) (n : Nat) : Int := if neg then -(n : Int) else n
theorem sgn_natAbs (neg : Bool) (n : Nat) : (sgn neg n).natAbs = n := by unfold sgn; cases neg <;> simp
theorem sgn_neg (neg : Bool) (n : Nat) : decide (sgn neg n < 0) = (neg && decide (0 < n)) := by
 unfold sgn; cases neg <;> simp

set_option maxHeartbeats 1000000 in
theorem signed_any (neg : Bool) (vw : Value) (n : Nat) (w : World) (h : MagAt w vw n) :
 Calls Try.prog 57 #[.bool neg, vw] w fun e w' => e = .returned (.agg #[.bool (decide (sgn neg n < 0)), vw]) ∧ Below w.heap.size w w' := by
 obtain ⟨a, cap, rfl, h1, h2, hcc⟩ := h
 clear hcc
 have hpos : decide (0 < (digs W2 n).length) = decide (0 < n) := by
  by_cases h0 : n = 0
  ·subst h0; rfl
  ·have := List.length_pos_iff.2 (fun h => h0 ((digs_nil W2 n w2_two).1 h))
   simp only [this, decide_true, Nat.pos_of_ne_zero h0]
 rw [sgn_neg]
 obtain ⟨N, hN⟩ : ∃ N, (digs W2 n).length = N := ⟨_, rfl⟩
 rw [hN] at hpos h1 ⊢
 clear hN
 by_cases h0 : 0 < N
 ·have hp : decide (0 < n) = true := by rw [← hpos]; simpa using h0
  rw [hp, Bool.and_true]
  clear hp hpos
  cases neg
  all_goals
   go_enter Try.func57, Try.ntmps57
   go_wp2
   exact bodyPost_ret (by simp [results, Try.results57, go_sem]) rfl ⟨rfl, (Below.refl _ _).alloc (Nat.le_refl _) _⟩
 ·obtain rfl : N = 0 := by omega
  have hp : decide (0 < n) = false := by rw [← hpos]; rfl
  rw [hp, Bool.and_false]
  clear hp hpos
  cases neg
  all_goals
   go_enter Try.func57, Try.ntmps57
   go_wp2
   exact bodyPost_ret (by simp [results, Try.results57, go_sem]) rfl ⟨rfl, (Below.refl _ _).alloc (Nat.le_refl _) _⟩

/-- block b is the two cells x, y -/
def Two (w : World) (b : Nat) (t : TypeId) (x y : Value) : Prop := w.heap[b]? = some (.cells #[x, y] t (0, 0))
section
variable {w w' : World} {b : Nat} {t : TypeId} {x y : Value}
theorem Two.lt (h : Two w b t x y) : b < w.heap.size := by
 rcases Nat.lt_or_ge b w.heap.size with hlt | hge
 ·exact hlt
 ·unfold Two at h; rw [Array.getElem?_eq_none hge] at h; cases h
theorem Two.cell0 (h : Two w b t x y) : w.cell? ⟨b, 0, none⟩ = some x := by rw [cell_of_row w b 0 _ t (0, 0) h]; rfl
theorem Two.cell1 (h : Two w b t x y) : w.cell? ⟨b, 1, none⟩ = some y := by rw [cell_of_row w b 1 _ t (0, 0) h]; rfl
theorem Two.frozen (h : Two w b t x y) (i : Nat) : w.frozen? ⟨b, i, none⟩ = false := by
 unfold Two at h
 simp [World.frozen?, h]
theorem Two.below {B : Nat} (h : Two w b t x y) (hb : Below B w w') (hg : b < B) : Two w' b t x y := (hb.block b hg).trans h
theorem Two.new (w : World) (t : TypeId) (x y : Value) : Two (w.alloc (.cells #[x, y] t)) w.heap.size t x y := heap_alloc_new w _
theorem Two.alloc (h : Two w b t x y) (o : Obj) : Two (w.alloc o) b t x y := (Below.heap_alloc w o b h.lt).trans h
end

/-- what limited answers: the integer, or ErrLimit -/
def LimPost (z : Int) (w : World) (e : Ending) (w' : World) : Prop :=
 Below w.heap.size w w' ∧ ((z.natAbs < LIM ∧ ∃ v, e = .returned (.tuple #[v, .int .i64 0]) ∧ WInt w' v z) ∨ (LIM ≤ z.natAbs ∧ e = .returned (.tuple #[.agg #[.bool false, .slice none 0 0], .int .i64 4])))

set_option maxHeartbeats 1000000 in
theorem limited_any (neg : Bool) (vw : Value) (n : Nat) (w : World) (h : MagAt w vw n) (hlen : (digs W2 n).length ≤ 4194304) :
 Calls Try.prog 93 #[.bool neg, vw] w (LimPost (sgn neg n) w) := by
 have Hm := Lib.hid h
 have hlim := lim_len n
 have hab := sgn_natAbs neg n
 obtain ⟨a, cap, rfl, h1, h2, hcc⟩ := h
 clear hcc
 have Hl := Lib.hid (Classical.em (n < LIM))
 have Hab := Lib.hid hab
 clear hab
 by_cases hl : n < LIM
 ·have hle := hlim.2 hl
  have Hl := Lib.hid hl
  clear hlim hl
  have Hs := Lib.hid (fun w' (hb : Below w.heap.size w w') => signed_any neg _ n w' (Hm.out.below (Nat.le_refl _) hb))
  have HBa := Lib.hid ((Below.refl w.heap.size w).alloc (Nat.le_refl _) (.cells #[.bool false, .slice none 0 0] 58))
  have HT := Lib.hid (Two.new w 58 (.bool false) (.slice none 0 0))
  generalize (digs W2 n).length = N at *
  go_enter Try.func93, Try.ntmps93
  go_wp2_with fail
  refine (Hs.out _ HBa.out).mono ?_
  rintro e w1 ⟨rfl, hB⟩
  have hT1 := HT.out.below hB (by simp)
  have c0 := hT1.cell0
  have c1 := hT1.cell1
  have f0 := hT1.frozen 0
  have f1 := hT1.frozen 1
  have HB1 := Lib.hid (HBa.out.trans (hB.mono (by simp)))
  clear hT1 hB
  go_wp2
  refine bodyPost_ret (v := .tuple #[.agg #[.bool (decide (sgn neg n < 0)), .slice a N cap], .int .i64 0]) (by simp [results, Try.results93, go_sem, c0, c1]) rfl ⟨(HB1.out.setCell (p := ⟨w.heap.size, 0, none⟩) (Nat.le_refl _) _).setCell (p := ⟨w.heap.size, 1, none⟩) (Nat.le_refl _) _, .inl ⟨by rw [Hab.out]; exact Hl.out, _, rfl, _, rfl, ?_⟩⟩
  rw [Hab.out]
  exact Hm.out.below (Nat.le_refl _) ((HB1.out.setCell (p := ⟨w.heap.size, 0, none⟩) (Nat.le_refl _) _).setCell (p := ⟨w.heap.size, 1, none⟩) (Nat.le_refl _) _)
 ·have hgt : ¬ (digs W2 n).length ≤ 512 := fun h => hl (hlim.1 h)
  have Hl := Lib.hid hl
  clear hl hlim
  generalize (digs W2 n).length = N at *
  go_enter Try.func93, Try.ntmps93
  go_wp2
  refine bodyPost_ret (v := .tuple #[.agg #[.bool false, .slice none 0 0], .int .i64 4]) (by simp [results, Try.results93, go_sem]) rfl ⟨(Below.refl _ _).alloc (Nat.le_refl _) _, .inr ⟨by rw [Hab.out]; exact Nat.le_of_not_lt Hl.out, rfl⟩⟩

theorem limited_ok (neg : Bool) (vw : Value) (n : Nat) (w : World) (h : MagAt w vw n) (hn : n < LIM) :
 Calls Try.prog 93 #[.bool neg, vw] w fun e w' => ∃ a l cap, e = .returned (.tuple #[.agg #[.bool (decide (sgn neg n < 0)), .slice a l cap], .int .i64 0]) ∧ MagAt w' (.slice a l cap) n ∧ Below w.heap.size w w' := by
 have hlen := (lim_len n).2 hn
 refine (limited_any neg vw n w h (by omega)).mono ?_
 rintro e w' ⟨hB, ⟨_, v, rfl, hW⟩ | ⟨hl, rfl⟩⟩
 ·obtain ⟨a, l, cap, rfl, hm⟩ := hW.form
  rw [sgn_natAbs] at hm
  exact ⟨a, l, cap, rfl, hm, hB⟩
 ·rw [sgn_natAbs] at hl; omega

theorem limited_big (neg : Bool) (vw : Value) (n : Nat) (w : World) (h : MagAt w vw n) (hn : LIM ≤ n) (hlen : (digs W2 n).length ≤ 4194304) :
 Calls Try.prog 93 #[.bool neg, vw] w fun e w' => e = .returned (.tuple #[.agg #[.bool false, .slice none 0 0], .int .i64 4]) ∧ Below w.heap.size w w' := by
 refine (limited_any neg vw n w h hlen).mono ?_
 rintro e w' ⟨hB, ⟨hl, v, rfl, hW⟩ | ⟨hl, rfl⟩⟩
 ·rw [sgn_natAbs] at hl; omega
 ·exact ⟨rfl, hB⟩

/-- two integers and a result, boxed -/
theorem boxes3 (w : World) (t : TypeId) (x1 x2 y1 y2 z1 z2 : Value) (n : Nat) (hn : w.heap.size = n) : ∃ W, ((w.alloc (.cells #[x1, x2] t)).alloc (.cells #[y1, y2] t)).alloc (.cells #[z1, z2] t) = W ∧
 Two W n t x1 x2 ∧ Two W (n + 1) t y1 y2 ∧ Two W (n + 1 + 1) t z1 z2 ∧ Below n w W ∧ W.heap.size = n + 1 + 1 + 1 := by
 subst hn
 refine ⟨_, rfl, ((Two.new w t x1 x2).alloc _).alloc _, ?_, ?_, (((Below.refl w.heap.size w).alloc (Nat.le_refl _) _).alloc (by simp) _).alloc (by simp; omega) _, by simp⟩
 ·have := (Two.new (w.alloc (.cells #[x1, x2] t)) t y1 y2).alloc (.cells #[z1, z2] t)
  rw [World.size_alloc] at this
  exact this
 ·have := Two.new ((w.alloc (.cells #[x1, x2] t)).alloc (.cells #[y1, y2] t)) t z1 z2
  rw [World.size_alloc, World.size_alloc] at this
  exact this

/-- the boxed operands lie as they lay -/
def Held4 (n : Nat) (x1 x2 y1 y2 : Value) (w : World) : Prop := w.cell? ⟨n, 0, none⟩ = some x1 ∧ w.cell? ⟨n, 1, none⟩ = some x2 ∧ w.cell? ⟨n + 1, 0, none⟩ = some y1 ∧ w.cell? ⟨n + 1, 1, none⟩ = some y2
theorem Held4.below {n : Nat} {x1 x2 y1 y2 : Value} {w w' : World} (h : Held4 n x1 x2 y1 y2 w) (hb : Below w.heap.size w w') (hs : n + 1 + 1 + 1 ≤ w.heap.size) : Held4 n x1 x2 y1 y2 w' ∧ n + 1 + 1 + 1 ≤ w'.heap.size :=
 ⟨⟨(hb.cell (p := ⟨n, 0, none⟩) (by show n < _; omega)).trans h.1, (hb.cell (p := ⟨n, 1, none⟩) (by show n < _; omega)).trans h.2.1, (hb.cell (p := ⟨n + 1, 0, none⟩) (by show n + 1 < _; omega)).trans h.2.2.1, (hb.cell (p := ⟨n + 1, 1, none⟩) (by show n + 1 < _; omega)).trans h.2.2.2⟩, by have := hb.size; omega⟩

theorem Held4.set2 {n : Nat} {x1 x2 y1 y2 : Value} {w : World} (h : Held4 n x1 x2 y1 y2 w) (u1 u2 : Value) : Held4 n x1 x2 y1 y2 ((w.setCell ⟨n + 1 + 1, 0, none⟩ u1).setCell ⟨n + 1 + 1, 1, none⟩ u2) := by
 have e : ∀ b o, b ≠ n + 1 + 1 → ((w.setCell ⟨n + 1 + 1, 0, none⟩ u1).setCell ⟨n + 1 + 1, 1, none⟩ u2).cell? ⟨b, o, none⟩ = w.cell? ⟨b, o, none⟩ := fun b o hb => by
  rw [World.cell?_setCell_other _ _ _ _ (by intro e; injection e; omega), World.cell?_setCell_other _ _ _ _ (by intro e; injection e; omega)]
 exact ⟨(e _ _ (by omega)).trans h.1, (e _ _ (by omega)).trans h.2.1, (e _ _ (by omega)).trans h.2.2.1, (e _ _ (by omega)).trans h.2.2.2⟩

/-- a store into a result's two cells leaves a row of numbers alone -/
theorem RowAt.store_two {k : IntKind} {w : World} {v : Value} {L : List Nat} {g : Nat} {t : TypeId} {x y : Value} (h : RowAt k w v L) (ht : Two w g t x y) (hx : ∀ k i, x ≠ .int k i) (hy : ∀ k i, y ≠ .int k i) (u1 u2 : Value) :
 RowAt k ((w.setCell ⟨g, 0, none⟩ u1).setCell ⟨g, 1, none⟩ u2) v L := by
 obtain ⟨a, cap, hv, h1, h2, hc⟩ := h
 refine ⟨a, cap, hv, h1, h2, fun h0 => ?_⟩
 obtain ⟨b, off, ha, hlt, hcc⟩ := hc h0
 have hne : b ≠ g := by
  rintro rfl
  have h3 := hcc 0 h0
  rw [cell_of_row w b (off + 0) _ t (0, 0) ht] at h3
  match off, h3 with
  | 0, h3 => simp at h3; exact hx _ _ h3
  | 1, h3 => simp at h3; exact hy _ _ h3
  | o + 2, h3 => simp at h3
 have hsz : ((w.setCell ⟨g, 0, none⟩ u1).setCell ⟨g, 1, none⟩ u2).heap.size = w.heap.size := by simp [World.setCell]
 refine ⟨b, off, ha, by rw [hsz]; exact hlt, fun j hj => ?_⟩
 rw [World.cell?_setCell_other _ _ _ _ (by intro e; injection e; omega), World.cell?_setCell_other _ _ _ _ (by intro e; injection e; omega)]
 exact hcc j hj

end Go.Proofs.Ytlmbebbdamgfpaa
