/- wide: scale, divideShort. -/
import Derived.Test.YtgfgjnkndfgdiaaDoorWMinus
namespace Go.Proofs.YtgfgjnkndfgdiaaDoor
open Go.RowKit

theorem cast_mod (t : Nat) : ((t % W2 : Nat) : Int) = (t : Int) % 4294967296 := by unfold W2; omega
theorem cast_div (t : Nat) : ((t / W2 : Nat) : Int) = (t : Int) / 4294967296 := by unfold W2; omega
theorem cast_cyf (c y f : Nat) : ((c + y * f : Nat) : Int) = (c : Int) + (y : Int) * (f : Int) := by rw [Int.natCast_add, Int.natCast_mul]

theorem set_step (L : List Nat) (k t : Nat) (h : k < L.length) (hz : L[k] = 0) : val W2 (L.set k (t % W2)) + t / W2 * W2 ^ (k + 1) = val W2 L + t * W2 ^ k := by
  have h1 := val_set W2 L k (t % W2) h
  have h2 := Nat.div_add_mod t W2
  rw [hz] at h1
  rw [Nat.pow_succ]
  generalize t % W2 = r at *
  generalize t / W2 = q at *
  generalize W2 ^ k = p at *
  generalize val W2 L = v at *
  generalize val W2 (L.set k r) = v' at *
  generalize W2 = B at *
  grind

theorem mul_lt_w2 (x y : Nat) (hx : x < W2) (hy : y < W2) : x * y ≤ 18446744065119617025 := by
  have : x * y ≤ 4294967295 * 4294967295 := Nat.mul_le_mul (by unfold W2 at hx; omega) (by unfold W2 at hy; omega)
  omega

/-- between two rounds of scale -/
structure ScaleI (A : List Nat) (f s N k c : Nat) (L : List Nat) : Prop where
  len : L.length = N + 1
  low : Low W2 L
  c1 : c < W2
  zero : ∀ j (h : j < L.length), k ≤ j → L[j] = 0
  eq : val W2 L + c * W2 ^ k = val W2 (A.take k) * f + s

theorem ScaleI.start (A : List Nat) (f s N : Nat) (hs : s < W2) : ScaleI A f s N 0 s (List.replicate (N + 1) 0) :=
  ⟨by simp, fun x hx => by rw [(List.mem_replicate.1 hx).2]; decide, hs, fun j h _ => by simp, by rw [val_zeros W2 _ (fun x hx => (List.mem_replicate.1 hx).2)]; simp [val]⟩

theorem ScaleI.carry {A : List Nat} {f s N k c : Nat} {L : List Nat} (h : ScaleI A f s N k c L) (y : Nat) (hy : y < W2) (hf : f < W2) : (c + y * f) / W2 < W2 := by
  have h1 := mul_lt_w2 y f hy hf
  have h2 := h.c1
  apply (Nat.div_lt_iff_lt_mul (show 0 < W2 by decide)).2
  unfold W2 at *
  omega

theorem ScaleI.next {A : List Nat} {f s N k c : Nat} {L : List Nat} (h : ScaleI A f s N k c L) (hk : k < L.length) (ha : k < A.length) (hA : Low W2 A) (hf : f < W2) :
    ScaleI A f s N (k + 1) ((c + A[k] * f) / W2) (L.set k ((c + A[k] * f) % W2)) := by
  refine ⟨by rw [List.length_set]; exact h.len, low_set h.low _ _ (Nat.mod_lt _ (by decide)), h.carry _ (hA _ (List.getElem_mem ha)) hf, fun j hj hkj => ?_, ?_⟩
  · rw [List.getElem_set_ne (by omega)]
    exact h.zero j (by rw [List.length_set] at hj; exact hj) (by omega)
  · rw [set_step L k _ hk (h.zero k hk (Nat.le_refl _)), val_take_succ W2 A k ha]
    have := h.eq
    generalize W2 ^ k = p at *
    generalize val W2 (A.take k) = v at *
    generalize A[k] = y at *
    grind

theorem ScaleI.done {A : List Nat} {f s N c : Nat} {L : List Nat} (h : ScaleI A f s N N c L) (hN : A.length = N) : val W2 (L.set N c) = val W2 A * f + s ∧ Low W2 (L.set N c) := by
  have hl : N < L.length := by rw [h.len]; omega
  have h1 := val_set W2 L N c hl
  rw [h.zero N hl (Nat.le_refl _)] at h1
  have h2 := h.eq
  rw [List.take_of_length_le (by omega)] at h2
  exact ⟨by omega, low_set h.low _ _ h.c1⟩

set_option maxRecDepth 100000 in
set_option maxHeartbeats 2000000 in
theorem scale_core (va : Value) (A : List Nat) (f s : Nat) (w : World) (ha : RowAt .u32 w va A) (hA : Low W2 A) (hf : f < 4294967296) (hs : s < 4294967296) (hlen : A.length ≤ 1048576) :
    Calls Tryd.prog 48 #[va, .int .u32 (f : Int), .int .u32 (s : Int)] w fun e w' => ∃ v, e = .returned v ∧ RowAt .u32 w' v (digs W2 (val W2 A * f + s)) ∧ Below w.heap.size w w' := by
  obtain ⟨i0, hi, hz0, hz1, hz2⟩ := info_parts info32
  have Hi := Lib.hid hi
  have Hz0 := Lib.hid hz0
  have Hz1 := Lib.hid hz1
  have Hz2 := Lib.hid hz2
  clear hi hz0 hz1 hz2
  obtain ⟨ya, ycap, hvy, y1, y2, hyc⟩ := ha
  subst hvy
  have Hyc := Lib.hid hyc
  have HlA := Lib.hid hA
  clear hyc hA
  obtain ⟨N, hN⟩ : ∃ N, A.length = N := ⟨_, rfl⟩
  have HN := Lib.hid hN
  rw [hN] at hlen y1 ⊢
  clear hN
  go_enter Tryd.func48, Tryd.ntmps48
  go_wp2_with (at_make; refine wpList_make_blk _ rfl _ _ 31 rfl 74 i0 .u32 Tryd.underlying31 Hi.out Hz0.out Hz1.out _ _ _ _ (N + 1) rfl rfl (by omega) (by omega) (by rw [Hz2.out]; omega) (by omega) ?_)
  intro w1 hblk hB1 hz1
  obtain ⟨g, hg⟩ : ∃ g, w.heap.size = g := ⟨_, rfl⟩
  have Hg := Lib.hid hg
  rw [hg] at hblk hB1 hz1 ⊢
  have Hblk1 := Lib.hid hblk
  have HB1 := Lib.hid hB1
  clear hg hblk hB1
  go_wp2_with fail
  have HI0 := Lib.hid (ScaleI.start A f s N hs)
  go_loopw [8, 19] (fun cv i wr => ∃ (k c : Nat) (L : List Nat), k ≤ N ∧ c < 4294967296 ∧ cv = .int .u64 (c : Int) ∧ i = .int .i64 k ∧ Hid (ScaleI A f s N k c L) ∧ Hid (Blk wr g 74 .u32 L) ∧ Hid (Below g w wr)) (fun _ i _ => N - (intOf i).toNat)
  case atStart => exact ⟨0, s, _, by omega, hs, rfl, rfl, HI0, Hblk1, HB1⟩
  case round =>
    obtain ⟨k, c, L, hk, hc, rfl, rfl, hI, hbl, hB⟩ := hrel
    have hgw := hbl.out.lt
    by_cases hlt : k < N
    · have hy : k < A.length := by rw [HN.out]; exact hlt
      have hkl : k < L.length := by rw [hI.out.len]; omega
      obtain ⟨b, off, rfl, hb, hcc⟩ := Hyc.out (by omega)
      rw [Hg.out] at hb
      have cy := (hB.out.cell (p := ⟨b, off + k, none⟩) hb).trans (hcc k hy)
      have hyl : A[k] < 4294967296 := HlA.out _ (List.getElem_mem hy)
      have Hnext := Lib.hid (hI.out.next hkl hy HlA.out hf)
      have hmul := mul_lt_w2 A[k] f hyl hf
      have hc2 := (hI.out.carry A[k] hyl hf)
      have cg := hbl.out.cell k hkl
      have fg := hbl.out.frozen k
      have hkN : k < N + 1 := by omega
      clear hcc
      generalize A[k] = y at *
      have m1 : (0 : Int) ≤ (y : Int) * (f : Int) := by rw [← Int.natCast_mul]; omega
      have m2 : (y : Int) * (f : Int) ≤ 18446744065119617025 := by rw [← Int.natCast_mul]; omega
      have hbg : b ≠ g := by omega
      go_wp2_with fail
      go_roundw
      case rel =>
        have hr : (((c + y * f) % W2 : Nat) : Int) = ((c : Int) + (y : Int) * (f : Int)) % 4294967296 := by rw [cast_mod, cast_cyf]
        have hq : (((c + y * f) / W2 : Nat) : Int) = ((c : Int) + (y : Int) * (f : Int)) / 4294967296 := by rw [cast_div, cast_cyf]
        rw [← hr, ← hq]
        exact ⟨k + 1, _, _, by omega, hc2, rfl, by go_num, Hnext, Lib.hid (hbl.out.set k _), Lib.hid (hB.out.setCell (p := ⟨g, k, none⟩) (Nat.le_refl _) _)⟩
      case measure => simp [intOf]; omega
    · obtain rfl : k = N := by omega
      clear hlt
      have hkl : k < L.length := by rw [hI.out.len]; omega
      have cg := hbl.out.cell k hkl
      have fg := hbl.out.frozen k
      have hd := hI.out.done HN.out
      have hlen2 : (L.set k c).length = k + 1 := by rw [List.length_set]; exact hI.out.len
      have Hb2 := Lib.hid (hbl.out.set k c)
      have HB2 := Lib.hid (hB.out.setCell (p := ⟨g, k, none⟩) (Nat.le_refl _) (.int .u32 (c : Int)))
      have Htr := Lib.hid (trim_any (.slice (some ⟨g, 0, none⟩) (k + 1) (k + 1)) (L.set k c) _ (by
        have := RowAt.of_blk Hb2.out (cap := k + 1) (by omega) (by omega)
        rw [hlen2] at this
        exact this) hd.2 (by omega))
      rw [hd.1] at Htr
      clear hd hlen2
      go_wp2_with (go_at_call 59; refine Htr.out.mono ?_; rintro e w6 ⟨v6, rfl, q1, rfl⟩; have Q1 := Lib.hid q1; clear q1)
      go_ret
      exact ⟨_, rfl, Q1.out, by rw [Hg.out]; exact HB2.out⟩

theorem scale_any (va : Value) (m f s : Nat) (w : World) (ha : MagAt w va m) (hf : f < 4294967296) (hs : s < 4294967296) (hl1 : (digs W2 m).length ≤ 1048576) :
    Calls Tryd.prog 48 #[va, .int .u32 (f : Int), .int .u32 (s : Int)] w fun e w' => ∃ v, e = .returned v ∧ MagAt w' v (m * f + s) ∧ Below w.heap.size w w' := by
  have key := scale_core va _ f s w ha (digs_low W2 w2_two m) hf hs hl1
  rw [val_digs W2 w2_two] at key
  exact key

end Go.Proofs.YtgfgjnkndfgdiaaDoor
