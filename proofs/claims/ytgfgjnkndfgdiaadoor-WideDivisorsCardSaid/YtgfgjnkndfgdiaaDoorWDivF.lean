/- wide: divideShort, and where its quotient lies. -/
import Derived.Test.YtgfgjnkndfgdiaaDoorWDivS
namespace Go.Proofs.YtgfgjnkndfgdiaaDoor
open Go.RowKit

set_option maxHeartbeats 1000000 in
theorem trim_at (a : Option Addr) (M cap : Nat) (L : List Nat) (w : World) (h : RowAt .u32 w (.slice a M cap) L) (hlow : Low W2 L) (hlen : L.length ≤ 4611686018427387904) :
    Calls Tryd.prog 59 #[.slice a M cap] w fun e w' => ∃ n, e = .returned (.slice a n cap) ∧ RowAt .u32 w (.slice a n cap) (digs W2 (val W2 L)) ∧ w = w' := by
  have Htake := Lib.hid (fun n hn => h.take n hn)
  obtain ⟨a', cap', hv', h1, h2, hc⟩ := h
  injection hv' with e1 e2 e3
  subst e1 e2 e3
  have Hc := Lib.hid hc
  have Hlow := Lib.hid hlow
  clear hc hlow
  obtain ⟨N, hN⟩ : ∃ N, L.length = N := ⟨_, rfl⟩
  have HN := Lib.hid hN
  rw [hN] at h1 hlen ⊢
  clear hN
  go_enter Tryd.func59, Tryd.ntmps59
  go_wp2
  go_loop [3] (fun i => ∃ n : Nat, n ≤ N ∧ i = .int .i64 n ∧ Hid (∀ j (h : j < L.length), n ≤ j → L[j] = 0)) (fun i => (intOf i).toNat)
  case atStart => exact ⟨N, Nat.le_refl _, rfl, Lib.hid (fun j hj hn => by rw [HN.out] at hj; omega)⟩
  case round =>
    obtain ⟨n, hn, rfl, hz⟩ := hrel
    have hdone : ∀ n : Nat, n ≤ N → (∀ j (h : j < L.length), n ≤ j → L[j] = 0) → (∀ h : n - 1 < L.length, n = 0 ∨ L[n - 1] ≠ 0) → RowAt .u32 w (.slice a n cap) (digs W2 (val W2 L)) := by
      intro n hn hz hl
      obtain ⟨a', cap', hv, _, _, hr⟩ := Htake.out n (by rw [HN.out]; exact hn)
      rw [HN.out] at hv
      injection hv with e1 e2 e3
      subst e1 e3
      rw [take_digs W2 w2_two L Hlow.out n (by rw [HN.out]; exact hn) hz hl] at hr
      exact hr
    have Hd := Lib.hid hdone
    clear hdone
    by_cases h0 : n = 0
    · subst h0
      go_wp2
      go_ret
      exact ⟨0, rfl, Hd.out 0 hn hz.out (fun _ => .inl rfl), rfl⟩
    · have hlt : n - 1 < L.length := by rw [HN.out]; omega
      obtain ⟨b, off, rfl, hb, hcc⟩ := Hc.out (by rw [HN.out]; omega)
      have hcell := hcc (n - 1) hlt
      clear hcc
      by_cases hzz : L[n - 1] = 0
      · have hz2 : Hid (∀ j (h : j < L.length), n - 1 ≤ j → L[j] = 0) := Lib.hid (fun j hj hnj => by
          by_cases e : j = n - 1
          · subst e; exact hzz
          · exact hz.out j hj (by omega))
        rw [hzz] at hcell
        clear hzz
        go_wp2
        go_round
        case rel => exact ⟨n - 1, by omega, by go_num, hz2⟩
        case measure => simp [intOf]; omega
      · have hne : (((L[n - 1] : Nat) : Int) == 0) = false := by simp; exact hzz
        go_wp2
        go_ret
        exact ⟨n, rfl, Hd.out n hn hz.out (fun _ => .inr hzz), rfl⟩

set_option maxRecDepth 100000 in
set_option maxHeartbeats 2000000 in
theorem divf_core (va : Value) (A : List Nat) (d : Nat) (w : World) (ha : RowAt .u32 w va A) (hA : Low W2 A) (hd0 : 0 < d) (hd : d < 4294967296) (hlen : A.length ≤ 1048576) :
    Calls Tryd.prog 52 #[va, .int .u32 (d : Int)] w fun e w' => ∃ n, e = .returned (.tuple #[.slice (some ⟨w.heap.size, 0, none⟩) n A.length, .int .u32 ((val W2 A % d : Nat) : Int)]) ∧ RowAt .u32 w' (.slice (some ⟨w.heap.size, 0, none⟩) n A.length) (digs W2 (val W2 A / d)) ∧ Below w.heap.size w w' := by
  obtain ⟨i0, hi, hz0, hz1, hz2⟩ := info_parts info32
  have Hi := Lib.hid hi
  have Hz0 := Lib.hid hz0
  have Hz1 := Lib.hid hz1
  have Hz2 := Lib.hid hz2
  clear hi hz0 hz1 hz2
  obtain ⟨ya, ycap, hvy, y1, y2, hyc⟩ := ha
  subst hvy
  have Hyc := Lib.hid hyc
  have HlA := Lib.hid hA
  clear hyc hA
  obtain ⟨N, hN⟩ : ∃ N, A.length = N := ⟨_, rfl⟩
  have HN := Lib.hid hN
  rw [hN] at hlen y1 ⊢
  clear hN
  go_enter Tryd.func52, Tryd.ntmps52
  go_wp2_with (at_make; refine wpList_make_blk _ rfl _ _ 31 rfl 74 i0 .u32 Tryd.underlying31 Hi.out Hz0.out Hz1.out _ _ _ _ N rfl rfl rfl rfl (by rw [Hz2.out]; omega) (by omega) ?_)
  intro w1 hblk hB1 hz1
  obtain ⟨g, hg⟩ : ∃ g, w.heap.size = g := ⟨_, rfl⟩
  have Hg := Lib.hid hg
  rw [hg] at hblk hB1 hz1 ⊢
  have Hblk1 := Lib.hid hblk
  have HB1 := Lib.hid hB1
  clear hg hblk hB1
  go_wp2_with fail
  have HI0 := Lib.hid (DivI.start A d N HN.out hd0)
  go_loopw [7, 8] (fun rv i wr => ∃ (k r : Nat) (L : List Nat), k ≤ N ∧ r < d ∧ rv = .int .u64 (r : Int) ∧ i = .int .i64 ((k : Int) - 1) ∧ Hid (DivI A d N k r L) ∧ Hid (Blk wr g 74 .u32 L) ∧ Hid (Below g w wr)) (fun _ i _ => (intOf i + 1).toNat)
  case atStart => exact ⟨N, 0, _, by omega, hd0, rfl, rfl, HI0, Hblk1, HB1⟩
  case round =>
    obtain ⟨k, r, L, hk, hr, rfl, rfl, hI, hbl, hB⟩ := hrel
    have hgw := hbl.out.lt
    by_cases h0 : k = 0
    · subst h0
      have hdn := hI.out.done
      have hlen2 := hI.out.len
      have Htr := Lib.hid (trim_at (some ⟨g, 0, none⟩) N N L wr (by
        have := RowAt.of_blk hbl.out (cap := N) (by omega) (by omega)
        rw [hlen2] at this
        exact this) hI.out.low (by omega))
      rw [hdn.1] at Htr
      have Hr := Lib.hid hdn.2
      clear hdn hlen2
      go_wp2_with (go_at_call 59; refine Htr.out.mono ?_; rintro e w6 ⟨n6, rfl, q1, rfl⟩; have Q1 := Lib.hid q1; clear q1)
      go_ret2
      rw [Hg.out]
      exact ⟨n6, by rw [Hr.out]; rfl, Q1.out, hB.out⟩
    · have hy : k - 1 < A.length := by rw [HN.out]; omega
      have hkl : k - 1 < L.length := by rw [hI.out.len]; omega
      obtain ⟨b, off, rfl, hb, hcc⟩ := Hyc.out (by omega)
      rw [Hg.out] at hb
      have cy := (hB.out.cell (p := ⟨b, off + (k - 1), none⟩) hb).trans (hcc (k - 1) hy)
      have hyl : A[k - 1] < 4294967296 := HlA.out _ (List.getElem_mem hy)
      have Hnext := Lib.hid (hI.out.next (by omega) hkl hy HlA.out)
      have hq := hI.out.quo A[k - 1] hyl
      have cg := hbl.out.cell (k - 1) hkl
      have fg := hbl.out.frozen (k - 1)
      clear hcc
      generalize A[k - 1] = y at *
      have hor := or_u64 r y (by omega) hyl
      obtain ⟨t, ht⟩ : ∃ t, r * 4294967296 + y = t := ⟨_, rfl⟩
      have ht1 : t ≤ 18446744073709551615 := by omega
      rw [show r * W2 + y = t from ht] at Hnext hq
      rw [ht] at hor
      clear ht
      have hq2 : ((t : Int) / (d : Int)) = ((t / d : Nat) : Int) := by omega
      have hm2 : ((t : Int) % (d : Int)) = ((t % d : Nat) : Int) := by omega
      have Hmod := Lib.hid (Nat.mod_lt t hd0)
      generalize t / d = q at *
      generalize t % d = m at *
      have hq3 : q < 4294967296 := hq
      clear hq
      go_wp2_with fail
      go_roundw
      case rel => exact ⟨k - 1, m, _, by omega, Hmod.out, by rw [hm2], by go_num, Hnext, Lib.hid (hbl.out.set (k - 1) _), Lib.hid (hB.out.setCell (p := ⟨g, k - 1, none⟩) (Nat.le_refl _) _)⟩
      case measure => simp [intOf]; omega

theorem divf_any (va : Value) (m d : Nat) (w : World) (ha : MagAt w va m) (hd0 : 0 < d) (hd : d < 4294967296) (hl1 : (digs W2 m).length ≤ 1048576) :
    Calls Tryd.prog 52 #[va, .int .u32 (d : Int)] w fun e w' => ∃ n c, e = .returned (.tuple #[.slice (some ⟨w.heap.size, 0, none⟩) n c, .int .u32 ((m % d : Nat) : Int)]) ∧ MagAt w' (.slice (some ⟨w.heap.size, 0, none⟩) n c) (m / d) ∧ Below w.heap.size w w' := by
  have key := divf_core va _ d w ha (digs_low W2 w2_two m) hd0 hd hl1
  rw [val_digs W2 w2_two] at key
  refine key.mono ?_
  rintro e w' ⟨n, he, hr, hB⟩
  exact ⟨n, _, he, hr, hB⟩

theorem RowAt.grown {k : IntKind} {w w' : World} {v : Value} {L : List Nat} {row : Option Nat} (h : RowAt k w v L) (hg : w.grownBy w' row) (hne : ∀ b off cap, v = .slice (some ⟨b, off, none⟩) L.length cap → some b ≠ row) : RowAt k w' v L := by
  obtain ⟨a, cap, hv, h1, h2, hc⟩ := h
  refine ⟨a, cap, hv, h1, h2, fun h0 => ?_⟩
  obtain ⟨b, off, ha, hlt, hcc⟩ := hc h0
  exact ⟨b, off, ha, Nat.lt_of_lt_of_le hlt hg.size, fun j hj => (World.cell?_of_block (w := w) (a := ⟨b, off + j, none⟩) (hg.block b hlt (hne b off cap (by rw [hv, ha])))).trans (hcc j hj)⟩

end Go.Proofs.YtgfgjnkndfgdiaaDoor
