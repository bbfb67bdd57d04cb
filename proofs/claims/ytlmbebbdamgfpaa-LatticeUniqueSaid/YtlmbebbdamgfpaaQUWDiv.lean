/- wide: Div, over what divide does. -/
import Derived.Test.YtlmbebbdamgfpaaQUWDivS
import Derived.Test.YtlmbebbdamgfpaaQUWSmall
import Derived.Maps.AppendAt
import Derived.Scope
set_option linter.unusedVariables false
set_option linter.unusedSimpArgs false
namespace Go.Proofs.Ytlmbebbdamgfpaa
open Go.RowKit

set_option maxHeartbeats 1000000 in
theorem trim_at (a : Option Addr) (M cap : Nat) (L : List Nat) (w : World) (h : RowAt .u32 w (.slice a M cap) L) (hlow : Low W2 L) (hlen : L.length ≤ 4611686018427387904) :
 Calls Try.prog 58 #[.slice a M cap] w fun e w' => ∃ n, e = .returned (.slice a n cap) ∧ RowAt .u32 w (.slice a n cap) (digs W2 (val W2 L)) ∧ w = w' := by
 have Htake := Lib.hid (fun n hn => h.take n hn)
 obtain ⟨a', cap', hv', h1, h2, hc⟩ := h
 injection hv' with e1 e2 e3
 subst e1 e2 e3
 have Hc := Lib.hid hc
 have Hlow := Lib.hid hlow
 clear hc hlow
 obtain ⟨N, hN⟩ : ∃ N, L.length = N := ⟨_, rfl⟩
 have HN := Lib.hid hN
 rw [hN] at h1 hlen ⊢
 clear hN
 go_enter Try.func58, Try.ntmps58
 go_wp2
 go_loop [3] (fun i => ∃ n : Nat, n ≤ N ∧ i = .int .i64 n ∧ Hid (∀ j (h : j < L.length), n ≤ j → L[j] = 0)) (fun i => (intOf i).toNat)
 case atStart => exact ⟨N, Nat.le_refl _, rfl, Lib.hid (fun j hj hn => by rw [HN.out] at hj; omega)⟩
 case round =>
  obtain ⟨n, hn, rfl, hz⟩ := hrel
  have hdone : ∀ n : Nat, n ≤ N → (∀ j (h : j < L.length), n ≤ j → L[j] = 0) → (∀ h : n - 1 < L.length, n = 0 ∨ L[n - 1] ≠ 0) → RowAt .u32 w (.slice a n cap) (digs W2 (val W2 L)) := by
   intro n hn hz hl
   obtain ⟨a', cap', hv, _, _, hr⟩ := Htake.out n (by rw [HN.out]; exact hn)
   rw [HN.out] at hv
   injection hv with e1 e2 e3
   subst e1 e3
   rw [take_digs W2 w2_two L Hlow.out n (by rw [HN.out]; exact hn) hz hl] at hr
   exact hr
  have Hd := Lib.hid hdone
  clear hdone
  by_cases h0 : n = 0
  ·subst h0
   go_wp2
   go_ret
   exact ⟨0, rfl, Hd.out 0 hn hz.out (fun _ => .inl rfl), rfl⟩
  ·have hlt : n - 1 < L.length := by rw [HN.out]; omega
   obtain ⟨b, off, rfl, hb, hcc⟩ := Hc.out (by rw [HN.out]; omega)
   have hcell := hcc (n - 1) hlt
   clear hcc
   by_cases hzz : L[n - 1] = 0
   ·have hz2 : Hid (∀ j (h : j < L.length), n - 1 ≤ j → L[j] = 0) := Lib.hid (fun j hj hnj => by
     by_cases e : j = n - 1
     ·subst e; exact hzz
     ·exact hz.out j hj (by omega))
    rw [hzz] at hcell
    clear hzz
    go_wp2
    go_round
    case rel => exact ⟨n - 1, by omega, by go_num, hz2⟩
    case measure => simp [intOf]; omega
   ·have hne : (((L[n - 1] : Nat) : Int) == 0) = false := by simp; exact hzz
    go_wp2
    go_ret
    exact ⟨n, rfl, Hd.out n hn hz.out (fun _ => .inr hzz), rfl⟩

set_option maxRecDepth 100000 in
set_option maxHeartbeats 2000000 in
theorem divf_core (va : Value) (A : List Nat) (d : Nat) (w : World) (ha : RowAt .u32 w va A) (hA : Low W2 A) (hd0 : 0 < d) (hd : d < 4294967296) (hlen : A.length ≤ 1048576) :
 Calls Try.prog 83 #[va, .int .u32 (d : Int)] w fun e w' => ∃ n, e = .returned (.tuple #[.slice (some ⟨w.heap.size, 0, none⟩) n A.length, .int .u32 ((val W2 A % d : Nat) : Int)]) ∧ RowAt .u32 w' (.slice (some ⟨w.heap.size, 0, none⟩) n A.length) (digs W2 (val W2 A / d)) ∧ Below w.heap.size w w' := by
 obtain ⟨i0, hi, hz0, hz1, hz2⟩ := info_parts info32
 have Hi := Lib.hid hi
 have Hz0 := Lib.hid hz0
 have Hz1 := Lib.hid hz1
 have Hz2 := Lib.hid hz2
 clear hi hz0 hz1 hz2
 obtain ⟨ya, ycap, hvy, y1, y2, hyc⟩ := ha
 subst hvy
 have Hyc := Lib.hid hyc
 have HlA := Lib.hid hA
 clear hyc hA
 obtain ⟨N, hN⟩ : ∃ N, A.length = N := ⟨_, rfl⟩
 have HN := Lib.hid hN
 rw [hN] at hlen y1 ⊢
 clear hN
 go_enter Try.func83, Try.ntmps83
 go_wp2_with (at_make; refine wpList_make_blk _ rfl _ _ 56 rfl 88 i0 .u32 Try.underlying56 Hi.out Hz0.out Hz1.out _ _ _ _ N rfl rfl rfl rfl (by rw [Hz2.out]; omega) (by omega) ?_)
 intro w1 hblk hB1 hz1
 obtain ⟨g, hg⟩ : ∃ g, w.heap.size = g := ⟨_, rfl⟩
 have Hg := Lib.hid hg
 rw [hg] at hblk hB1 hz1 ⊢
 have Hblk1 := Lib.hid hblk
 have HB1 := Lib.hid hB1
 clear hg hblk hB1
 go_wp2_with fail
 have HI0 := Lib.hid (DivI.start A d N HN.out hd0)
 go_loopw [7, 8] (fun rv i wr => ∃ (k r : Nat) (L : List Nat), k ≤ N ∧ r < d ∧ rv = .int .u64 (r : Int) ∧ i = .int .i64 ((k : Int) - 1) ∧ Hid (DivI A d N k r L) ∧ Hid (Blk wr g 88 .u32 L) ∧ Hid (Below g w wr)) (fun _ i _ => (intOf i + 1).toNat)
 case atStart => exact ⟨N, 0, _, by omega, hd0, rfl, rfl, HI0, Hblk1, HB1⟩
 case round =>
  obtain ⟨k, r, L, hk, hr, rfl, rfl, hI, hbl, hB⟩ := hrel
  have hgw := hbl.out.lt
  by_cases h0 : k = 0
  ·subst h0
   have hdn := hI.out.done
   have hlen2 := hI.out.len
   have Htr := Lib.hid (trim_at (some ⟨g, 0, none⟩) N N L wr (by
    have := RowAt.of_blk hbl.out (cap := N) (by omega) (by omega)
    rw [hlen2] at this
    exact this) hI.out.low (by omega))
   rw [hdn.1] at Htr
   have Hr := Lib.hid hdn.2
   clear hdn hlen2
   go_wp2_with (go_at_call 58; refine Htr.out.mono ?_; rintro e w6 ⟨n6, rfl, q1, rfl⟩; have Q1 := Lib.hid q1; clear q1)
   go_ret2
   rw [Hg.out]
   exact ⟨n6, by rw [Hr.out]; rfl, Q1.out, hB.out⟩
  ·have hy : k - 1 < A.length := by rw [HN.out]; omega
   have hkl : k - 1 < L.length := by rw [hI.out.len]; omega
   obtain ⟨b, off, rfl, hb, hcc⟩ := Hyc.out (by omega)
   rw [Hg.out] at hb
   have cy := (hB.out.cell (p := ⟨b, off + (k - 1), none⟩) hb).trans (hcc (k - 1) hy)
   have hyl : A[k - 1] < 4294967296 := HlA.out _ (List.getElem_mem hy)
   have Hnext := Lib.hid (hI.out.next (by omega) hkl hy HlA.out)
   have hq := hI.out.quo A[k - 1] hyl
   have cg := hbl.out.cell (k - 1) hkl
   have fg := hbl.out.frozen (k - 1)
   clear hcc
   generalize A[k - 1] = y at *
   have hor := or_u64 r y (by omega) hyl
   obtain ⟨t, ht⟩ : ∃ t, r * 4294967296 + y = t := ⟨_, rfl⟩
   have ht1 : t ≤ 18446744073709551615 := by omega
   rw [show r * W2 + y = t from ht] at Hnext hq
   rw [ht] at hor
   clear ht
   have hq2 : ((t : Int) / (d : Int)) = ((t / d : Nat) : Int) := by omega
   have hm2 : ((t : Int) % (d : Int)) = ((t % d : Nat) : Int) := by omega
   have Hmod := Lib.hid (Nat.mod_lt t hd0)
   generalize t / d = q at *
   generalize t % d = m at *
   have hq3 : q < 4294967296 := hq
   clear hq
   go_wp2_with fail
   go_roundw
   case rel => exact ⟨k - 1, m, _, by omega, Hmod.out, by rw [hm2], by go_num, Hnext, Lib.hid (hbl.out.set (k - 1) _), Lib.hid (hB.out.setCell (p := ⟨g, k - 1, none⟩) (Nat.le_refl _) _)⟩
   case measure => simp [intOf]; omega

theorem divf_any (va : Value) (m d : Nat) (w : World) (ha : MagAt w va m) (hd0 : 0 < d) (hd : d < 4294967296) (hl1 : (digs W2 m).length ≤ 1048576) :
 Calls Try.prog 83 #[va, .int .u32 (d : Int)] w fun e w' => ∃ n c, e = .returned (.tuple #[.slice (some ⟨w.heap.size, 0, none⟩) n c, .int .u32 ((m % d : Nat) : Int)]) ∧ MagAt w' (.slice (some ⟨w.heap.size, 0, none⟩) n c) (m / d) ∧ Below w.heap.size w w' := by
 have key := divf_core va _ d w ha (digs_low W2 w2_two m) hd0 hd hl1
 rw [val_digs W2 w2_two] at key
 refine key.mono ?_
 rintro e w' ⟨n, he, hr, hB⟩
 exact ⟨n, _, he, hr, hB⟩

theorem RowAt.grown {k : IntKind} {w w' : World} {v : Value} {L : List Nat} {row : Option Nat} (h : RowAt k w v L) (hg : w.grownBy w' row) (hne : ∀ b off cap, v = .slice (some ⟨b, off, none⟩) L.length cap → some b ≠ row) : RowAt k w' v L := by
 obtain ⟨a, cap, hv, h1, h2, hc⟩ := h
 refine ⟨a, cap, hv, h1, h2, fun h0 => ?_⟩
 obtain ⟨b, off, ha, hlt, hcc⟩ := hc h0
 exact ⟨b, off, ha, Nat.lt_of_lt_of_le hlt hg.size, fun j hj => (World.cell?_of_block (w := w) (a := ⟨b, off + j, none⟩) (hg.block b hlt (hne b off cap (by rw [hv, ha])))).trans (hcc j hj)⟩

end Go.Proofs.Ytlmbebbdamgfpaa
namespace Go.Proofs.Ytlmbebbdamgfpaa
open Go.RowKit

def DivPost (m d : Nat) (w : World) (e : Ending) (w' : World) : Prop :=
 Below w.heap.size w w' ∧ ∃ vq vr, e = .returned (.tuple #[vq, vr]) ∧ MagAt w' vq (m / d) ∧ MagAt w' vr (m % d)

set_option maxHeartbeats 4000000 in
theorem divide_short (va vb : Value) (m d : Nat) (w : World) (ha : MagAt w va m) (hb : MagAt w vb d) (hd0 : d ≠ 0) (hm : m < LIM) (hd : m < d ∨ d < W2) (hd2 : d < LIM) :
 Calls Try.prog 62 #[va, vb] w (DivPost m d w) := by
 have Ha := Lib.hid ha
 have Hb := Lib.hid hb
 have hla := (lim_len m).2 hm
 have hlb := (lim_len d).2 hd2
 have Hcmp := Lib.hid (compare_any va vb m d w ha hb (by omega) (by omega))
 obtain ⟨aa, ca, rfl, h1, h2, h3⟩ := ha
 obtain ⟨ab, cb, rfl, h4, h5, h6⟩ := hb
 have Hla := Lib.hid hla
 have Hlb := Lib.hid hlb
 have H6 := Lib.hid h6
 clear h3 h6 hm hd2 hla hlb
 by_cases hlt : m < d
 ·have hc3 : cmp3 (m : Int) (d : Int) = -1 := by unfold cmp3; rw [if_pos (by omega)]
  rw [hc3] at Hcmp
  have Hlt := Lib.hid hlt
  have Hcl := Lib.hid (fun n => clone_mag _ m (w.drewN n) Ha.out (by have := Hla.out; omega))
  clear hlt hd hc3 H6
  generalize (digs W2 m).length = M at *
  generalize (digs W2 d).length = N at *
  go_enter Try.func62, Try.ntmps62
  go_wp2_with fail
  refine wp_scope_straight ?_
  go_wp2_with fail
  refine Hcmp.out.mono ?_
  rintro e w' ⟨rfl, k, rfl⟩
  go_wp2_with fail
  refine (Hcl.out k).mono ?_
  rintro e w1 ⟨a1, l1, c1, rfl, hm1, hB⟩
  have HB := Lib.hid (Below.trans (show Below w.heap.size w (w.drewN k) from ⟨rfl, rfl, rfl, Nat.le_refl _, fun _ _ => rfl⟩) hB)
  have Hm1 := Lib.hid hm1
  clear hB hm1 Hcl Hcmp
  go_wp2
  refine bodyPost_ret (v := .tuple #[.slice none 0 0, .slice a1 l1 c1]) (by simp [results, Try.results62, go_sem]) rfl ⟨HB.out, _, _, rfl, ?_, ?_⟩
  ·rw [Nat.div_eq_of_lt Hlt.out]
   unfold MagAt
   rw [digs_zero]
   exact RowAt.nil _ _ (by omega)
  ·rw [Nat.mod_eq_of_lt Hlt.out]; exact Hm1.out
 ·have hd4 := hd.resolve_left hlt
  have hdl : digs W2 d = [d] := by
   rw [digs_pos W2 d w2_two hd0, Nat.div_eq_of_lt hd4, digs_zero, Nat.mod_eq_of_lt hd4]
  have Hdf := Lib.hid (fun n => divf_any _ m d (w.drewN n) Ha.out (by omega) (by omega) (by have := Hla.out; omega))
  have hc3 : ¬ (cmp3 (m : Int) (d : Int) < 0) := by
   unfold cmp3
   rw [if_neg (by omega)]
   split <;> simp
  generalize cmp3 (m : Int) (d : Int) = C at *
  obtain ⟨b, off, rfl, hbl, hcell⟩ := H6.out (by rw [hdl]; simp)
  have hcd : ∀ n, (w.drewN n).cell? ⟨b, off, none⟩ = some (.int .u32 (d : Int)) := fun n => by
   have h7 := hcell 0 (by rw [hdl]; simp)
   rw [Nat.add_zero] at h7
   show w.cell? _ = _
   rw [h7]
   simp [hdl]
  have hdl1 : (digs W2 d).length = 1 := by rw [hdl]; rfl
  rw [hdl1] at Hb Hcmp Hlb h4 ⊢
  have Hcd := Lib.hid hcd
  have Hd4 := Lib.hid hd4
  have Hd0 := Lib.hid hd0
  clear hcd hcell H6 hdl hdl1 hd hlt hd4 hd0
  generalize (digs W2 m).length = M at *
  go_enter Try.func62, Try.ntmps62
  go_wp2_with fail
  refine wp_scope_straight ?_
  go_wp2_with fail
  refine Hcmp.out.mono ?_
  rintro e w' ⟨rfl, k, rfl⟩
  have hcd := Hcd.out k
  go_wp2_with fail
  refine (Hdf.out k).mono ?_
  rintro e w1 ⟨QL, qc, rfl, hm1, hB⟩
  have HB := Lib.hid (Below.trans (show Below w.heap.size w (w.drewN k) from ⟨rfl, rfl, rfl, Nat.le_refl _, fun _ _ => rfl⟩) hB)
  have Hm1 := Lib.hid hm1
  have z1 := HB.out.size
  obtain ⟨r, hr⟩ : ∃ r, m % d = r := ⟨_, rfl⟩
  have hrl : r < 4294967296 := by rw [← hr]; exact Nat.lt_trans (Nat.mod_lt _ (Nat.pos_of_ne_zero Hd0.out)) Hd4.out
  have Hr := Lib.hid hr
  rw [hr]
  clear hB hm1 Hdf Hcmp hcd hr
  go_wp2_with fail
  have hblk : Blk (w1.alloc (.cells #[.int .u32 (r : Int)] 88)) w1.heap.size 88 .u32 [r] := heap_alloc_new w1 _
  refine (trim_any (.slice (some ⟨w1.heap.size, 0, none⟩) 1 1) [r] _ (RowAt.of_blk hblk (by simp) (by simp)) (fun x hx => by rw [List.mem_singleton.1 hx]; exact hrl) (by simp)).mono ?_
  rintro e w2 ⟨v2, rfl, hr2, rfl⟩
  have hv1 : val W2 [r] = r := by simp [val]
  rw [hv1] at hr2
  have Hr2 := Lib.hid hr2
  obtain ⟨a2, c2, rfl, _, _, _⟩ := hr2
  clear hblk hv1
  go_wp2
  refine bodyPost_ret (v := .tuple #[.slice (some ⟨w.heap.size, 0, none⟩) QL qc, .slice a2 (digs W2 r).length c2]) (by simp [results, Try.results62, go_sem]) rfl ⟨HB.out.alloc z1 _, _, _, rfl, ?_, ?_⟩
  ·exact RowAt.below Hm1.out (Nat.le_refl _) ((Below.refl _ _).alloc (Nat.le_refl _) _)
  ·rw [Hr.out]; exact Hr2.out

end Go.Proofs.Ytlmbebbdamgfpaa
namespace Go.Proofs.Ytlmbebbdamgfpaa
open Go.RowKit

/-- what divide does at two numbers -/
def DivOk (m d : Nat) : Prop := ∀ (w : World) (va vb : Value), MagAt w va m → MagAt w vb d → Calls Try.prog 62 #[va, vb] w (DivPost m d w)

theorem divok_short {m d : Nat} (hd0 : d ≠ 0) (hm : m < LIM) (hd : m < d ∨ d < W2) (hd2 : d < LIM) : DivOk m d := fun w va vb ha hb => divide_short va vb m d w ha hb hd0 hm hd hd2

def qOf (x y : Int) : Int := if x < 0 ∧ x.natAbs % y.natAbs ≠ 0 then sgn (decide (x < 0) != decide (y < 0)) (x.natAbs / y.natAbs + 1) else sgn (decide (x < 0) != decide (y < 0)) (x.natAbs / y.natAbs)
def rOf (x y : Int) : Nat := if x < 0 ∧ x.natAbs % y.natAbs ≠ 0 then y.natAbs - x.natAbs % y.natAbs else x.natAbs % y.natAbs

def DivRet (x y : Int) (w : World) (e : Ending) (w' : World) : Prop :=
 Below w.heap.size w w' ∧ ∃ vq vr, e = .returned (.tuple #[vq, vr, .int .i64 0]) ∧ WInt w' vq (qOf x y) ∧ WInt w' vr (rOf x y)

theorem Two.far {w : World} {b : Nat} {t : TypeId} {x y : Value} (h : Two w b t x y) {p : Addr} (hp : b ≠ p.block) (u : Value) : Two (w.setCell p u) b t x y := (Below.heap_setCell w p u b hp).trans h

theorem boxes4 (w : World) (t : TypeId) (x1 x2 y1 y2 z1 z2 u1 u2 : Value) (n : Nat) (hn : w.heap.size = n) : ∃ W, (((w.alloc (.cells #[x1, x2] t)).alloc (.cells #[y1, y2] t)).alloc (.cells #[z1, z2] t)).alloc (.cells #[u1, u2] t) = W ∧
 Two W n t x1 x2 ∧ Two W (n + 1) t y1 y2 ∧ Two W (n + 1 + 1) t z1 z2 ∧ Two W (n + 1 + 1 + 1) t u1 u2 ∧ Below n w W ∧ W.heap.size = n + 1 + 1 + 1 + 1 := by
 obtain ⟨V, hV, t1, t2, t3, hB, hs⟩ := boxes3 w t x1 x2 y1 y2 z1 z2 n hn
 rw [hV]
 refine ⟨_, rfl, t1.alloc _, t2.alloc _, t3.alloc _, ?_, hB.alloc (by omega) _, by simp [hs]⟩
 have := Two.new V t u1 u2
 rw [hs] at this
 exact this

theorem mag_form {w : World} {v : Value} {n : Nat} (h : MagAt w v n) : ∃ a l c, v = .slice a l c ∧ MagAt w (.slice a l c) n ∧ l = (digs W2 n).length ∧ l ≤ c ∧ c ≤ 9223372036854775807 := by
 obtain ⟨a, c, rfl, h1, h2, h3⟩ := h
 exact ⟨a, _, c, rfl, ⟨a, c, rfl, h1, h2, h3⟩, rfl, h1, h2⟩
theorem mag_len {n : Nat} : 0 < (digs W2 n).length ↔ n ≠ 0 := by
 rw [List.length_pos_iff, ne_eq, digs_nil W2 n w2_two]

theorem qOf_pos {x y : Int} (h : ¬ (x < 0 ∧ x.natAbs % y.natAbs ≠ 0)) : qOf x y = sgn (decide (x < 0) != decide (y < 0)) (x.natAbs / y.natAbs) ∧ rOf x y = x.natAbs % y.natAbs := by
 unfold qOf rOf; rw [if_neg h, if_neg h]; exact ⟨rfl, rfl⟩
theorem qOf_neg {x y : Int} (h : x < 0 ∧ x.natAbs % y.natAbs ≠ 0) : qOf x y = sgn (decide (x < 0) != decide (y < 0)) (x.natAbs / y.natAbs + 1) ∧ rOf x y = y.natAbs - x.natAbs % y.natAbs := by
 unfold qOf rOf; rw [if_pos h, if_pos h]; exact ⟨rfl, rfl⟩

set_option maxRecDepth 100000 in
set_option maxHeartbeats 4000000 in
theorem div_any (vx vy : Value) (x y : Int) (w : World) (hx : WInt w vx x) (hy : WInt w vy y) (hy0 : y ≠ 0) (hlx : x.natAbs < LIM) (hly : y.natAbs < LIM) (hok : DivOk x.natAbs y.natAbs) :
 Calls Try.prog 43 #[vx, vy] w (DivRet x y w) := by
 obtain ⟨vwx, rfl, hmx⟩ := hx
 obtain ⟨vwy, rfl, hmy⟩ := hy
 obtain ⟨ax, nx, cx, rfl, hmx, hnx, hcx⟩ := mag_form hmx
 obtain ⟨ay, ny, cy, rfl, hmy, hny, hcy⟩ := mag_form hmy
 have hypos : 0 < ny := by rw [hny, mag_len]; omega
 have hy1 : ((ny : Int) == 0) = false := by simp; omega
 obtain ⟨n, hn⟩ : ∃ n, w.heap.size = n := ⟨_, rfl⟩
 have Hn := Lib.hid hn
 obtain ⟨W, hW, t1, t2, t3, t4, hBW, hsW⟩ := boxes4 w 58 (.bool (decide (x < 0))) (.slice ax nx cx) (.bool (decide (y < 0))) (.slice ay ny cy) (.bool false) (.slice none 0 0) (.bool false) (.slice none 0 0) n hn
 have Hd := Lib.hid (hok W (.slice ax nx cx) (.slice ay ny cy) (hmx.below (Nat.le_of_eq hn) hBW) (hmy.below (Nat.le_of_eq hn) hBW))
 have HY := Lib.hid hmy
 have hle := (lim_len y.natAbs).2 hly
 have hlex := (lim_len x.natAbs).2 hlx
 have Hlex := Lib.hid hlex
 have Hlx := Lib.hid hlx
 have Hle := Lib.hid hle
 have Hmod := Lib.hid (Nat.mod_lt x.natAbs (show 0 < y.natAbs by omega))
 have HBW := Lib.hid hBW
 have T1 := Lib.hid t1
 have T2 := Lib.hid t2
 have T3 := Lib.hid t3
 have T4 := Lib.hid t4
 have d1 := t1.cell1
 have d3 := t2.cell1
 obtain ⟨sx, hsx⟩ : ∃ sx, decide (x < 0) = sx := ⟨_, rfl⟩
 obtain ⟨sy, hsy⟩ : ∃ sy, decide (y < 0) = sy := ⟨_, rfl⟩
 rw [hsx] at hW T1 ⊢
 rw [hsy] at hW T2 ⊢
 have Hsx := Lib.hid hsx
 have Hsy := Lib.hid hsy
 clear hok hmx hmy t1 t2 t3 t4 hBW hnx hny hle hlex hlx hly hy0 hsx hsy
 go_enter Try.func43, Try.ntmps43
 go_wp2_with fail
 clear hW hy1
 refine Hd.out.mono ?_
 rintro e w1 ⟨hB1, vq, vr, rfl, hq, hr⟩
 obtain ⟨aq, lq, cq, rfl, hq, hlq, hcq⟩ := mag_form hq
 obtain ⟨ar, lr, cr, rfl, hr, hlr, hcr⟩ := mag_form hr
 have Hq := Lib.hid hq
 have Hr := Lib.hid hr
 have Hlr := Lib.hid hlr
 have HB1 := Lib.hid (HBW.out.trans (hB1.mono (by omega)))
 have z1 := hB1.size
 rw [hsW] at z1
 have T11 := Lib.hid (T1.out.below hB1 (by omega))
 have T12 := Lib.hid (T2.out.below hB1 (by omega))
 have T13 := Lib.hid (T3.out.below hB1 (by omega))
 have T14 := Lib.hid (T4.out.below hB1 (by omega))
 have e0 := T11.out.cell0
 have e2 := T12.out.cell0
 have e3 := T12.out.cell1
 have Hor := Lib.hid (show lr = 0 ↔ x.natAbs % y.natAbs = 0 by
  have := mag_len (n := x.natAbs % y.natAbs)
  rw [← hlr] at this
  omega)
 clear hq hr hlr hlq hB1 Hd T1 T2 T3 T4 d1 d3
 by_cases hcase : sx = true ∧ 0 < lr
 ·obtain ⟨rfl, hlr0⟩ := hcase
  have Hqr : Hid (qOf x y = sgn (!sy) (x.natAbs / y.natAbs + 1) ∧ rOf x y = y.natAbs - x.natAbs % y.natAbs) := Lib.hid (by
   have h9 := qOf_neg (x := x) (y := y) ⟨by simpa using Hsx.out, fun h => by have := Hor.out.2 h; omega⟩
   rw [Hsx.out, Hsy.out] at h9
   refine ⟨h9.1.trans ?_, h9.2⟩
   cases sy <;> rfl)
  obtain ⟨wa, hwa⟩ : ∃ wa, w1.alloc (.cells #[.int .u32 1] 88) = wa := ⟨_, rfl⟩
  have hBa : Below w1.heap.size w1 wa := by rw [← hwa]; exact (Below.refl _ _).alloc (Nat.le_refl _) _
  have hza : wa.heap.size = w1.heap.size + 1 := by rw [← hwa]; simp
  have hblk : Blk wa w1.heap.size 88 .u32 [1] := by rw [← hwa]; exact heap_alloc_new w1 _
  have hone : MagAt wa (.slice (some ⟨w1.heap.size, 0, none⟩) 1 1) 1 := by
   have hd1 : digs W2 1 = [1] := by rw [digs_pos W2 1 w2_two (by omega), show 1 / W2 = 0 from rfl, digs_zero]; rfl
   unfold MagAt
   rw [hd1]
   exact RowAt.of_blk hblk (by simp) (by simp)
  have Hlq : Hid ((digs W2 (x.natAbs / y.natAbs)).length ≤ 512) := Lib.hid ((lim_len _).2 (Nat.lt_of_le_of_lt (Nat.div_le_self _ _) Hlx.out))
  have Hpl := Lib.hid (plus_any _ _ _ 1 wa (RowAt.below Hq.out (Nat.le_refl _) hBa) hone (by have := Hlq.out; omega) (by rw [show digs W2 1 = [1] by rw [digs_pos W2 1 w2_two (by omega), show 1 / W2 = 0 from rfl, digs_zero]; rfl]; simp))
  have HBa := Lib.hid hBa
  clear hBa hblk hone
  go_wp2_with fail
  refine Hpl.out.mono ?_
  rintro e w2 ⟨v2, rfl, hm2, hB2⟩
  obtain ⟨a3, l3, c3, rfl, hm2, -, hc3⟩ := mag_form hm2
  have Hm2 := Lib.hid hm2
  have HB2 := Lib.hid (HBa.out.trans (hB2.mono (by omega)))
  have z2 := HB2.out.size
  have HT2y := Lib.hid (T12.out.below HB2.out (by omega))
  have e3' := HT2y.out.cell1
  have Hmin := Lib.hid (minus_any (.slice ay ny cy) (.slice ar lr cr) y.natAbs (x.natAbs % y.natAbs) w2 (HY.out.below (Nat.le_of_eq hn) (HB1.out.trans (HB2.out.mono (by omega)))) (RowAt.below Hr.out (Nat.le_refl _) HB2.out) (Nat.le_of_lt Hmod.out) (by have := Hle.out; omega))
  clear hm2 hB2 Hpl
  go_wp2_with fail
  refine Hmin.out.mono ?_
  rintro e w3 ⟨v3, rfl, hm3, hB3⟩
  obtain ⟨a4, l4, c4, rfl, hm3, -, hc4⟩ := mag_form hm3
  have Hr3 := Lib.hid hm3
  have Hq3 := Lib.hid (RowAt.below Hm2.out (Nat.le_refl _) hB3)
  have HB23 := Lib.hid (HB2.out.trans (hB3.mono (by omega)))
  have z3 := HB23.out.size
  have HB3 := Lib.hid (HB1.out.trans (HB23.out.mono (by omega)))
  have T31 := Lib.hid (T11.out.below HB23.out (by omega))
  have T32 := Lib.hid (T12.out.below HB23.out (by omega))
  have T33 := Lib.hid (T13.out.below HB23.out (by omega))
  have T34 := Lib.hid (T14.out.below HB23.out (by omega))
  have k0 := T31.out.cell0
  have k2 := T32.out.cell0
  clear hm3 hB3 Hmin
  obtain ⟨Q1, hQ1⟩ : ∃ Q1, x.natAbs / y.natAbs + 1 = Q1 := ⟨_, rfl⟩
  obtain ⟨R1, hR1⟩ : ∃ R1, y.natAbs - x.natAbs % y.natAbs = R1 := ⟨_, rfl⟩
  have HQM : Hid (MagAt w3 (.slice a3 l3 c3) Q1) := Lib.hid (by rw [← hQ1]; exact Hq3.out)
  have HRM : Hid (MagAt w3 (.slice a4 l4 c4) R1) := Lib.hid (by rw [← hR1]; exact Hr3.out)
  rw [hQ1, hR1] at Hqr
  clear hQ1 hR1 Hq3 Hr3 Hm2
  go_wp2_with fail
  refine (signed_any _ _ _ w3 HQM.out).mono ?_
  rintro e w7 ⟨rfl, hB7⟩
  have HB7 := Lib.hid hB7
  have z7 := hB7.size
  clear hB7
  go_wp2_with fail
  refine (signed_any _ _ _ w7 (RowAt.below HRM.out (Nat.le_refl _) HB7.out)).mono ?_
  rintro e w8 ⟨rfl, hB8⟩
  have HB8 := Lib.hid (HB7.out.trans (hB8.mono z7))
  have z8 := HB8.out.size
  have HT3 := Lib.hid (T33.out.below HB8.out (by omega))
  have HT4 := Lib.hid (T34.out.below HB8.out (by omega))
  have HQ8 := Lib.hid (RowAt.below HQM.out (Nat.le_refl _) HB8.out)
  have HR8 := Lib.hid (RowAt.below HRM.out (Nat.le_refl _) HB8.out)
  have HBall := Lib.hid (HB3.out.trans (HB8.out.mono (by omega)))
  have g0 := HT3.out.cell0
  have g1 := HT3.out.cell1
  have g2 := HT3.out.frozen 0
  have g3 := HT3.out.frozen 1
  have g4 := HT4.out.cell0
  have g5 := HT4.out.cell1
  have g6 := HT4.out.frozen 0
  have g7 := HT4.out.frozen 1
  clear hB8
  go_wp2
  refine bodyPost_ret (v := .tuple #[.agg #[.bool (decide (sgn (!sy) Q1 < 0)), .slice a3 l3 c3], .agg #[.bool (decide (sgn false R1 < 0)), .slice a4 l4 c4], .int .i64 0]) (by simp [results, Try.results43, go_sem, g0, g1, g4, g5]) rfl ?_
  refine ⟨?_, _, _, rfl, WInt.mk ?_ ?_, WInt.mk ?_ ?_⟩
  ·rw [Hn.out]
   exact (((HBall.out.setCell (p := ⟨n + 1 + 1, 0, none⟩) (by show n ≤ n + 1 + 1; omega) _).setCell (p := ⟨n + 1 + 1, 1, none⟩) (by show n ≤ n + 1 + 1; omega) _).setCell (p := ⟨n + 1 + 1 + 1, 0, none⟩) (by show n ≤ n + 1 + 1 + 1; omega) _).setCell (p := ⟨n + 1 + 1 + 1, 1, none⟩) (by show n ≤ n + 1 + 1 + 1; omega) _
  ·rw [Hqr.out.1]
  ·rw [Hqr.out.1, sgn_natAbs]
   exact RowAt.store_two (RowAt.store_two HQ8.out HT3.out (fun _ _ h => by cases h) (fun _ _ h => by cases h) _ _) ((HT4.out.far (by show n + 1 + 1 + 1 ≠ n + 1 + 1; omega) _).far (by show n + 1 + 1 + 1 ≠ n + 1 + 1; omega) _) (fun _ _ h => by cases h) (fun _ _ h => by cases h) _ _
  ·rw [Hqr.out.2]; rfl
  ·rw [Hqr.out.2]
   exact RowAt.store_two (RowAt.store_two HR8.out HT3.out (fun _ _ h => by cases h) (fun _ _ h => by cases h) _ _) ((HT4.out.far (by show n + 1 + 1 + 1 ≠ n + 1 + 1; omega) _).far (by show n + 1 + 1 + 1 ≠ n + 1 + 1; omega) _) (fun _ _ h => by cases h) (fun _ _ h => by cases h) _ _
 ·cases sx with
  | false =>
   have Hqr : Hid (qOf x y = sgn sy (x.natAbs / y.natAbs) ∧ rOf x y = x.natAbs % y.natAbs) := Lib.hid (by
    have h9 := qOf_pos (x := x) (y := y) (fun h => by have h8 := Hsx.out; rw [decide_eq_true h.1] at h8; cases h8)
    rw [Hsx.out, Hsy.out] at h9
    refine ⟨h9.1.trans ?_, h9.2⟩
    cases sy <;> rfl)
   clear hcase
   go_wp2_with fail
   refine (signed_any _ _ _ w1 Hq.out).mono ?_
   rintro e w7 ⟨rfl, hB7⟩
   have HB7 := Lib.hid hB7
   have z7 := hB7.size
   clear hB7
   go_wp2_with fail
   refine (signed_any _ _ _ w7 (RowAt.below Hr.out (Nat.le_refl _) HB7.out)).mono ?_
   rintro e w8 ⟨rfl, hB8⟩
   have HB8 := Lib.hid (HB7.out.trans (hB8.mono z7))
   have z8 := HB8.out.size
   have HT3 := Lib.hid (T13.out.below HB8.out (by omega))
   have HT4 := Lib.hid (T14.out.below HB8.out (by omega))
   have HQ8 := Lib.hid (RowAt.below Hq.out (Nat.le_refl _) HB8.out)
   have HR8 := Lib.hid (RowAt.below Hr.out (Nat.le_refl _) HB8.out)
   have HBall := Lib.hid (HB1.out.trans (HB8.out.mono (by omega)))
   have g0 := HT3.out.cell0
   have g1 := HT3.out.cell1
   have g2 := HT3.out.frozen 0
   have g3 := HT3.out.frozen 1
   have g4 := HT4.out.cell0
   have g5 := HT4.out.cell1
   have g6 := HT4.out.frozen 0
   have g7 := HT4.out.frozen 1
   clear hB8
   go_wp2
   refine bodyPost_ret (v := .tuple #[.agg #[.bool (decide (sgn sy (x.natAbs / y.natAbs) < 0)), .slice aq lq cq], .agg #[.bool (decide (sgn false (x.natAbs % y.natAbs) < 0)), .slice ar lr cr], .int .i64 0]) (by simp [results, Try.results43, go_sem, g0, g1, g4, g5]) rfl ?_
   refine ⟨?_, _, _, rfl, WInt.mk ?_ ?_, WInt.mk ?_ ?_⟩
   ·rw [Hn.out]
    exact (((HBall.out.setCell (p := ⟨n + 1 + 1, 0, none⟩) (by show n ≤ n + 1 + 1; omega) _).setCell (p := ⟨n + 1 + 1, 1, none⟩) (by show n ≤ n + 1 + 1; omega) _).setCell (p := ⟨n + 1 + 1 + 1, 0, none⟩) (by show n ≤ n + 1 + 1 + 1; omega) _).setCell (p := ⟨n + 1 + 1 + 1, 1, none⟩) (by show n ≤ n + 1 + 1 + 1; omega) _
   ·rw [Hqr.out.1]
   ·rw [Hqr.out.1, sgn_natAbs]
    exact RowAt.store_two (RowAt.store_two HQ8.out HT3.out (fun _ _ h => by cases h) (fun _ _ h => by cases h) _ _) ((HT4.out.far (by show n + 1 + 1 + 1 ≠ n + 1 + 1; omega) _).far (by show n + 1 + 1 + 1 ≠ n + 1 + 1; omega) _) (fun _ _ h => by cases h) (fun _ _ h => by cases h) _ _
   ·rw [Hqr.out.2]; rfl
   ·rw [Hqr.out.2]
    exact RowAt.store_two (RowAt.store_two HR8.out HT3.out (fun _ _ h => by cases h) (fun _ _ h => by cases h) _ _) ((HT4.out.far (by show n + 1 + 1 + 1 ≠ n + 1 + 1; omega) _).far (by show n + 1 + 1 + 1 ≠ n + 1 + 1; omega) _) (fun _ _ h => by cases h) (fun _ _ h => by cases h) _ _
  | true =>
   obtain rfl : lr = 0 := by simp at hcase; omega
   have Hqr : Hid (qOf x y = sgn (!sy) (x.natAbs / y.natAbs) ∧ rOf x y = x.natAbs % y.natAbs) := Lib.hid (by
    have h9 := qOf_pos (x := x) (y := y) (fun h => h.2 (Hor.out.1 rfl))
    rw [Hsx.out, Hsy.out] at h9
    refine ⟨h9.1.trans ?_, h9.2⟩
    cases sy <;> rfl)
   clear hcase
   go_wp2_with fail
   refine (signed_any _ _ _ w1 Hq.out).mono ?_
   rintro e w7 ⟨rfl, hB7⟩
   have HB7 := Lib.hid hB7
   have z7 := hB7.size
   clear hB7
   go_wp2_with fail
   refine (signed_any _ _ _ w7 (RowAt.below Hr.out (Nat.le_refl _) HB7.out)).mono ?_
   rintro e w8 ⟨rfl, hB8⟩
   have HB8 := Lib.hid (HB7.out.trans (hB8.mono z7))
   have z8 := HB8.out.size
   have HT3 := Lib.hid (T13.out.below HB8.out (by omega))
   have HT4 := Lib.hid (T14.out.below HB8.out (by omega))
   have HQ8 := Lib.hid (RowAt.below Hq.out (Nat.le_refl _) HB8.out)
   have HR8 := Lib.hid (RowAt.below Hr.out (Nat.le_refl _) HB8.out)
   have HBall := Lib.hid (HB1.out.trans (HB8.out.mono (by omega)))
   have g0 := HT3.out.cell0
   have g1 := HT3.out.cell1
   have g2 := HT3.out.frozen 0
   have g3 := HT3.out.frozen 1
   have g4 := HT4.out.cell0
   have g5 := HT4.out.cell1
   have g6 := HT4.out.frozen 0
   have g7 := HT4.out.frozen 1
   clear hB8
   go_wp2
   refine bodyPost_ret (v := .tuple #[.agg #[.bool (decide (sgn (!sy) (x.natAbs / y.natAbs) < 0)), .slice aq lq cq], .agg #[.bool (decide (sgn false (x.natAbs % y.natAbs) < 0)), .slice ar 0 cr], .int .i64 0]) (by simp [results, Try.results43, go_sem, g0, g1, g4, g5]) rfl ?_
   refine ⟨?_, _, _, rfl, WInt.mk ?_ ?_, WInt.mk ?_ ?_⟩
   ·rw [Hn.out]
    exact (((HBall.out.setCell (p := ⟨n + 1 + 1, 0, none⟩) (by show n ≤ n + 1 + 1; omega) _).setCell (p := ⟨n + 1 + 1, 1, none⟩) (by show n ≤ n + 1 + 1; omega) _).setCell (p := ⟨n + 1 + 1 + 1, 0, none⟩) (by show n ≤ n + 1 + 1 + 1; omega) _).setCell (p := ⟨n + 1 + 1 + 1, 1, none⟩) (by show n ≤ n + 1 + 1 + 1; omega) _
   ·rw [Hqr.out.1]
   ·rw [Hqr.out.1, sgn_natAbs]
    exact RowAt.store_two (RowAt.store_two HQ8.out HT3.out (fun _ _ h => by cases h) (fun _ _ h => by cases h) _ _) ((HT4.out.far (by show n + 1 + 1 + 1 ≠ n + 1 + 1; omega) _).far (by show n + 1 + 1 + 1 ≠ n + 1 + 1; omega) _) (fun _ _ h => by cases h) (fun _ _ h => by cases h) _ _
   ·rw [Hqr.out.2]; rfl
   ·rw [Hqr.out.2]
    exact RowAt.store_two (RowAt.store_two HR8.out HT3.out (fun _ _ h => by cases h) (fun _ _ h => by cases h) _ _) ((HT4.out.far (by show n + 1 + 1 + 1 ≠ n + 1 + 1; omega) _).far (by show n + 1 + 1 + 1 ≠ n + 1 + 1; omega) _) (fun _ _ h => by cases h) (fun _ _ h => by cases h) _ _

end Go.Proofs.Ytlmbebbdamgfpaa
