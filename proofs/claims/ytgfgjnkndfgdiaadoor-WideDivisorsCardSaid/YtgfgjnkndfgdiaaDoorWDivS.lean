/- wide: divideShort. -/
import Derived.Test.YtgfgjnkndfgdiaaDoorWScale
import Derived.Laws.BitsAllLaws
import Derived.Laws.BitsLemmas
namespace Go.Proofs.YtgfgjnkndfgdiaaDoor
open Go.RowKit

theorem or_u64 (x y : Nat) (hx : x < 4294967296) (hy : y < 4294967296) : bits BinOp.or IntKind.u64 ((x : Int) * 4294967296) (y : Int) = ((x * 4294967296 + y : Nat) : Int) := by
  have h := u64_or_nat (x * 4294967296) y (by omega) (by omega)
  have e : (((x * 4294967296 : Nat)) : Int) = (x : Int) * 4294967296 := by omega
  rw [e] at h
  rw [h]
  have h2 : x * 2 ^ 32 ||| y = x * 2 ^ 32 + y := by rw [Nat.mul_comm, ← Nat.two_pow_add_eq_or_of_lt hy]
  exact congrArg Int.ofNat h2

theorem drop_set_at (L : List Nat) (k x : Nat) (h : k < L.length) : (L.set k x).drop k = x :: L.drop (k + 1) := by
  rw [List.drop_eq_getElem_cons (by rw [List.length_set]; exact h), List.getElem_set_self, List.drop_set_of_lt (by omega)]

/-- between two rounds of divideShort: the digits from k on are done -/
structure DivI (A : List Nat) (d N k r : Nat) (L : List Nat) : Prop where
  len : L.length = N
  low : Low W2 L
  r1 : r < d
  eq : val W2 (A.drop k) = d * val W2 (L.drop k) + r

theorem DivI.start (A : List Nat) (d N : Nat) (hN : A.length = N) (hd : 0 < d) : DivI A d N N 0 (List.replicate N 0) :=
  ⟨by simp, fun x hx => by rw [(List.mem_replicate.1 hx).2]; decide, hd, by rw [List.drop_of_length_le (by omega), List.drop_of_length_le (by simp)]; simp [val]⟩

theorem DivI.quo {A : List Nat} {d N k r : Nat} {L : List Nat} (h : DivI A d N k r L) (y : Nat) (hy : y < W2) : (r * W2 + y) / d < W2 := by
  have h1 := h.r1
  apply (Nat.div_lt_iff_lt_mul (by omega)).2
  have : (r + 1) * W2 ≤ d * W2 := Nat.mul_le_mul_right _ h1
  rw [Nat.add_mul, Nat.one_mul] at this
  rw [Nat.mul_comm W2 d]
  omega

theorem DivI.next {A : List Nat} {d N k r : Nat} {L : List Nat} (h : DivI A d N k r L) (hk : 0 < k) (h1 : k - 1 < L.length) (h2 : k - 1 < A.length) (hA : Low W2 A) :
    DivI A d N (k - 1) ((r * W2 + A[k - 1]) % d) (L.set (k - 1) ((r * W2 + A[k - 1]) / d)) := by
  refine ⟨by rw [List.length_set]; exact h.len, low_set h.low _ _ (h.quo _ (hA _ (List.getElem_mem h2))), Nat.mod_lt _ (by have := h.r1; omega), ?_⟩
  rw [drop_set_at L (k - 1) _ h1, List.drop_eq_getElem_cons h2, Nat.sub_add_cancel hk, val, val, h.eq]
  have := Nat.div_add_mod (r * W2 + A[k - 1]) d
  generalize (r * W2 + A[k - 1]) / d = q at *
  generalize (r * W2 + A[k - 1]) % d = m at *
  generalize A[k - 1] = y at *
  generalize val W2 (L.drop k) = v at *
  generalize W2 = B at *
  grind

theorem DivI.done {A : List Nat} {d N r : Nat} {L : List Nat} (h : DivI A d N 0 r L) : val W2 L = val W2 A / d ∧ r = val W2 A % d := by
  have h1 := h.eq
  have h2 := h.r1
  rw [List.drop_zero, List.drop_zero] at h1
  rw [h1]
  constructor
  · rw [Nat.mul_add_div (by omega), Nat.div_eq_of_lt h2, Nat.add_zero]
  · rw [Nat.mul_add_mod, Nat.mod_eq_of_lt h2]

set_option maxRecDepth 100000 in
set_option maxHeartbeats 2000000 in
theorem divs_core (va : Value) (A : List Nat) (d : Nat) (w : World) (ha : RowAt .u32 w va A) (hA : Low W2 A) (hd0 : 0 < d) (hd : d < 4294967296) (hlen : A.length ≤ 1048576) :
    Calls Tryd.prog 52 #[va, .int .u32 (d : Int)] w fun e w' => ∃ v, e = .returned (.tuple #[v, .int .u32 ((val W2 A % d : Nat) : Int)]) ∧ RowAt .u32 w' v (digs W2 (val W2 A / d)) ∧ Below w.heap.size w w' := by
  obtain ⟨i0, hi, hz0, hz1, hz2⟩ := info_parts info32
  have Hi := Lib.hid hi
  have Hz0 := Lib.hid hz0
  have Hz1 := Lib.hid hz1
  have Hz2 := Lib.hid hz2
  clear hi hz0 hz1 hz2
  obtain ⟨ya, ycap, hvy, y1, y2, hyc⟩ := ha
  subst hvy
  have Hyc := Lib.hid hyc
  have HlA := Lib.hid hA
  clear hyc hA
  obtain ⟨N, hN⟩ : ∃ N, A.length = N := ⟨_, rfl⟩
  have HN := Lib.hid hN
  rw [hN] at hlen y1 ⊢
  clear hN
  go_enter Tryd.func52, Tryd.ntmps52
  go_wp2_with (at_make; refine wpList_make_blk _ rfl _ _ 31 rfl 74 i0 .u32 Tryd.underlying31 Hi.out Hz0.out Hz1.out _ _ _ _ N rfl rfl rfl rfl (by rw [Hz2.out]; omega) (by omega) ?_)
  intro w1 hblk hB1 hz1
  obtain ⟨g, hg⟩ : ∃ g, w.heap.size = g := ⟨_, rfl⟩
  have Hg := Lib.hid hg
  rw [hg] at hblk hB1 hz1 ⊢
  have Hblk1 := Lib.hid hblk
  have HB1 := Lib.hid hB1
  clear hg hblk hB1
  go_wp2_with fail
  have HI0 := Lib.hid (DivI.start A d N HN.out hd0)
  go_loopw [7, 8] (fun rv i wr => ∃ (k r : Nat) (L : List Nat), k ≤ N ∧ r < d ∧ rv = .int .u64 (r : Int) ∧ i = .int .i64 ((k : Int) - 1) ∧ Hid (DivI A d N k r L) ∧ Hid (Blk wr g 74 .u32 L) ∧ Hid (Below g w wr)) (fun _ i _ => (intOf i + 1).toNat)
  case atStart => exact ⟨N, 0, _, by omega, hd0, rfl, rfl, HI0, Hblk1, HB1⟩
  case round =>
    obtain ⟨k, r, L, hk, hr, rfl, rfl, hI, hbl, hB⟩ := hrel
    have hgw := hbl.out.lt
    by_cases h0 : k = 0
    · subst h0
      have hdn := hI.out.done
      have hlen2 := hI.out.len
      have Htr := Lib.hid (trim_any (.slice (some ⟨g, 0, none⟩) N N) L wr (by
        have := RowAt.of_blk hbl.out (cap := N) (by omega) (by omega)
        rw [hlen2] at this
        exact this) hI.out.low (by omega))
      rw [hdn.1] at Htr
      have Hr := Lib.hid hdn.2
      clear hdn hlen2
      go_wp2_with (go_at_call 59; refine Htr.out.mono ?_; rintro e w6 ⟨v6, rfl, q1, rfl⟩; have Q1 := Lib.hid q1; clear q1)
      go_ret2
      exact ⟨_, by rw [Hr.out]; rfl, Q1.out, by rw [Hg.out]; exact hB.out⟩
    · have hy : k - 1 < A.length := by rw [HN.out]; omega
      have hkl : k - 1 < L.length := by rw [hI.out.len]; omega
      obtain ⟨b, off, rfl, hb, hcc⟩ := Hyc.out (by omega)
      rw [Hg.out] at hb
      have cy := (hB.out.cell (p := ⟨b, off + (k - 1), none⟩) hb).trans (hcc (k - 1) hy)
      have hyl : A[k - 1] < 4294967296 := HlA.out _ (List.getElem_mem hy)
      have Hnext := Lib.hid (hI.out.next (by omega) hkl hy HlA.out)
      have hq := hI.out.quo A[k - 1] hyl
      have cg := hbl.out.cell (k - 1) hkl
      have fg := hbl.out.frozen (k - 1)
      clear hcc
      generalize A[k - 1] = y at *
      have hor := or_u64 r y (by omega) hyl
      obtain ⟨t, ht⟩ : ∃ t, r * 4294967296 + y = t := ⟨_, rfl⟩
      have ht1 : t ≤ 18446744073709551615 := by omega
      rw [show r * W2 + y = t from ht] at Hnext hq
      rw [ht] at hor
      clear ht
      have hq2 : ((t : Int) / (d : Int)) = ((t / d : Nat) : Int) := by omega
      have hm2 : ((t : Int) % (d : Int)) = ((t % d : Nat) : Int) := by omega
      have Hmod := Lib.hid (Nat.mod_lt t hd0)
      generalize t / d = q at *
      generalize t % d = m at *
      have hq3 : q < 4294967296 := hq
      clear hq
      go_wp2_with fail
      go_roundw
      case rel => exact ⟨k - 1, m, _, by omega, Hmod.out, by rw [hm2], by go_num, Hnext, Lib.hid (hbl.out.set (k - 1) _), Lib.hid (hB.out.setCell (p := ⟨g, k - 1, none⟩) (Nat.le_refl _) _)⟩
      case measure => simp [intOf]; omega

theorem divs_any (va : Value) (m d : Nat) (w : World) (ha : MagAt w va m) (hd0 : 0 < d) (hd : d < 4294967296) (hl1 : (digs W2 m).length ≤ 1048576) :
    Calls Tryd.prog 52 #[va, .int .u32 (d : Int)] w fun e w' => ∃ v, e = .returned (.tuple #[v, .int .u32 ((m % d : Nat) : Int)]) ∧ MagAt w' v (m / d) ∧ Below w.heap.size w w' := by
  have key := divs_core va _ d w ha (digs_low W2 w2_two m) hd0 hd hl1
  rw [val_digs W2 w2_two] at key
  exact key

end Go.Proofs.YtgfgjnkndfgdiaaDoor
