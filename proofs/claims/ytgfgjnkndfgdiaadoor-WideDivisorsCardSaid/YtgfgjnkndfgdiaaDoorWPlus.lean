/- wide: plus, minus. -/
import Derived.Test.YtgfgjnkndfgdiaaDoorWWords
namespace Go.Proofs.YtgfgjnkndfgdiaaDoor
open Go.RowKit

theorem pass_step (L : List Nat) (k c x : Nat) (h : k < L.length) : val W2 (L.set k ((c + (L[k] + x)) % W2)) + (c + (L[k] + x)) / W2 * W2 ^ (k + 1) = val W2 L + (c + x) * W2 ^ k := by
  have h1 := val_set W2 L k ((c + (L[k] + x)) % W2) h
  have h2 := Nat.div_add_mod (c + (L[k] + x)) W2
  rw [Nat.pow_succ]
  generalize (c + (L[k] + x)) % W2 = r at *
  generalize (c + (L[k] + x)) / W2 = q at *
  generalize W2 ^ k = p at *
  generalize L[k] = s at *
  generalize val W2 L = v at *
  generalize val W2 (L.set k r) = v' at *
  generalize W2 = B at *
  grind

set_option maxHeartbeats 1000000 in
theorem pass_any (i N g cb sb c x : Nat) (L : List Nat) (w : World) (hL : L.length = N) (hi : i < L.length) (_hN : N ≤ 1099511627776) (hblk : Blk w g 74 .u32 L) (hcb : One w cb 89 (.int .u64 (c : Int))) (hsb : One w sb 31 (.slice (some ⟨g, 0, none⟩) N N))
    (h1 : cb ≠ g) (h2 : sb ≠ g) (h3 : sb ≠ cb) (hc : c ≤ 4294967296) (hx : x < 4294967296) (hlow : Low W2 L) :
    Calls Tryd.prog 83 #[.int .i64 (i : Int), .int .u32 (x : Int), .pointer (some ⟨cb, 0, none⟩), .pointer (some ⟨sb, 0, none⟩)] w fun e w' => (∃ v, e = .returned v) ∧
      Blk w' g 74 .u32 (L.set i ((c + (L[i] + x)) % W2)) ∧ One w' cb 89 (.int .u64 (((c + (L[i] + x)) / W2 : Nat) : Int)) ∧ One w' sb 31 (.slice (some ⟨g, 0, none⟩) N N) ∧ Only (fun k => k = g ∨ k = cb) w w' := by
  have Hblk := Lib.hid hblk
  have Hcb := Lib.hid hcb
  have Hsb := Lib.hid hsb
  have e1 := hblk.cell i hi
  have e2 := hblk.frozen i
  have e3 := hcb.cell
  have e4 := hcb.frozen
  have e5 := hsb.cell
  have hs : L[i] < 4294967296 := hlow _ (List.getElem_mem hi)
  clear hblk hcb hsb hlow
  have hi2 : i < N := by omega
  have HL := Lib.hid hL
  clear hL
  generalize hS : L[i] = s at *
  have HS := Lib.hid hS
  clear hS
  have b1 : IntKind.u64.wrap ((s : Int) + x) = (s : Int) + x := IntWalk.u64_in _ (by omega)
  have b2 : IntKind.u64.wrap ((c : Int) + ((s : Int) + x)) = (c : Int) + ((s : Int) + x) := IntWalk.u64_in _ (by omega)
  go_enter Tryd.func83, Tryd.ntmps83
  go_wp2
  go_region
  go_wp2
  go_end0
  have hr : (((c + (s + x)) % W2 : Nat) : Int) = ((c : Int) + ((s : Int) + x)) % 4294967296 := by simp
  have hq : (((c + (s + x)) / W2 : Nat) : Int) = ((c : Int) + ((s : Int) + x)) / 4294967296 := by simp
  rw [← hr, ← hq]
  refine ⟨⟨_, rfl⟩, ?_, ?_, ?_, ?_⟩
  · exact (((Hblk.out.far (p := ⟨cb, 0, none⟩) (Ne.symm h1) _).set i _).far (p := ⟨cb, 0, none⟩) (Ne.symm h1) _).drew
  · exact ((((Hcb.out.set _).far (p := ⟨g, i, none⟩) h1 _).set _)).drew
  · exact (((Hsb.out.far (p := ⟨cb, 0, none⟩) h3 _).far (p := ⟨g, i, none⟩) h2 _).far (p := ⟨cb, 0, none⟩) h3 _).drew
  · exact ((((Only.refl _ w).set (p := ⟨cb, 0, none⟩) (Or.inr rfl) _).set (p := ⟨g, i, none⟩) (Or.inl rfl) _).set (p := ⟨cb, 0, none⟩) (Or.inr rfl) _).drew

/-- between two passes: k digits have been added, c is carried -/
structure PlusI (X Y : List Nat) (N k c : Nat) (L : List Nat) : Prop where
  len : L.length = N + 1
  low : Low W2 L
  c1 : c ≤ 1
  eq : val W2 L + c * W2 ^ k = val W2 X + val W2 (Y.take k)

theorem PlusI.start (X Y : List Nat) (N : Nat) (hN : X.length = N) (hX : Low W2 X) : PlusI X Y N 0 0 (X ++ [0]) :=
  ⟨by simp [hN], low_append hX (fun x hx => by rw [List.mem_singleton.1 hx]; decide), by omega, by rw [val_append]; simp [val]⟩

theorem PlusI.carry {X Y : List Nat} {N k c : Nat} {L : List Nat} (h : PlusI X Y N k c L) (hk : k < L.length) (y : Nat) (hy : y < W2) : (c + (L[k] + y)) / W2 ≤ 1 := by
  have h1 : L[k] < W2 := h.low _ (List.getElem_mem hk)
  have h2 := h.c1
  have : c + (L[k] + y) < 2 * W2 := by unfold W2 at *; omega
  have := (Nat.div_lt_iff_lt_mul (show 0 < W2 by decide)).2 this
  omega

theorem PlusI.next {X Y : List Nat} {N k c : Nat} {L : List Nat} (h : PlusI X Y N k c L) (hk : k < L.length) (hy : k < Y.length) (hY : Low W2 Y) :
    PlusI X Y N (k + 1) ((c + (L[k] + Y[k])) / W2) (L.set k ((c + (L[k] + Y[k])) % W2)) := by
  refine ⟨by rw [List.length_set]; exact h.len, low_set h.low _ _ (Nat.mod_lt _ (by decide)), h.carry hk _ (hY _ (List.getElem_mem hy)), ?_⟩
  rw [pass_step L k c Y[k] hk, val_take_succ W2 Y k hy, Nat.add_mul]
  have := h.eq
  omega

/-- behind the digits of Y -/
theorem PlusI.over {X Y : List Nat} {N k c : Nat} {L : List Nat} (h : PlusI X Y N k c L) (hk : k < L.length) (hy : Y.length ≤ k) :
    PlusI X Y N (k + 1) ((c + (L[k] + 0)) / W2) (L.set k ((c + (L[k] + 0)) % W2)) := by
  refine ⟨by rw [List.length_set]; exact h.len, low_set h.low _ _ (Nat.mod_lt _ (by decide)), h.carry hk _ (by decide), ?_⟩
  rw [pass_step L k c 0 hk, Nat.add_zero, List.take_of_length_le (by omega)]
  have := h.eq
  rw [List.take_of_length_le hy] at this
  exact this

theorem PlusI.room {X Y : List Nat} {N k c : Nat} {L : List Nat} (h : PlusI X Y N k c L) (hX : Low W2 X) (hY : Low W2 Y) (hN : X.length = N) (hM : Y.length ≤ N) (hk : k ≤ N + 1) (hy : Y.length ≤ k) (hc : c ≠ 0) : k < N + 1 := by
  rcases Nat.lt_or_ge k (N + 1) with h1 | h1
  · exact h1
  · have hk1 : k = N + 1 := by omega
    subst hk1
    have h2 := h.eq
    rw [List.take_of_length_le hy] at h2
    have h3 := val_lt W2 (by decide) X hX
    have h4 := val_lt W2 (by decide) Y hY
    have h5 : W2 ^ Y.length ≤ W2 ^ N := Nat.pow_le_pow_right (by decide) hM
    rw [hN] at h3
    have h6 : 1 * W2 ^ (N + 1) ≤ c * W2 ^ (N + 1) := Nat.mul_le_mul_right _ (by omega)
    have h7 : W2 ^ (N + 1) = W2 ^ N * W2 := Nat.pow_succ ..
    have h8 : 2 * W2 ^ N ≤ W2 ^ N * W2 := by rw [Nat.mul_comm]; exact Nat.mul_le_mul_left _ (by decide)
    omega

theorem PlusI.done {X Y : List Nat} {N k : Nat} {L : List Nat} (h : PlusI X Y N k 0 L) (hy : Y.length ≤ k) : val W2 L = val W2 X + val W2 Y := by
  have := h.eq
  rw [List.take_of_length_le hy, Nat.zero_mul, Nat.add_zero] at this
  exact this

set_option maxRecDepth 100000 in
set_option maxHeartbeats 2000000 in
theorem plus_ge (va vb : Value) (A B : List Nat) (w : World) (ha : RowAt .u32 w va A) (hb : RowAt .u32 w vb B) (hA : Low W2 A) (hB : Low W2 B) (hl : B.length ≤ A.length) (hlen : A.length ≤ 1048576) :
    Calls Tryd.prog 65 #[va, vb] w fun e w' => ∃ v, e = .returned v ∧ RowAt .u32 w' v (digs W2 (val W2 A + val W2 B)) ∧ Below w.heap.size w w' := by
  obtain ⟨i0, hi, hz0, hz1, hz2⟩ := info_parts info32
  have Hi := Lib.hid hi
  have Hz0 := Lib.hid hz0
  have Hz1 := Lib.hid hz1
  have Hz2 := Lib.hid hz2
  clear hi hz0 hz1 hz2
  have HX0 := Lib.hid ha
  have HY0 := Lib.hid hb
  obtain ⟨xa, xcap, hvx, x1, x2, _⟩ := ha
  obtain ⟨ya, ycap, hvy, y1, y2, hyc⟩ := hb
  subst hvx hvy
  have Hyc := Lib.hid hyc
  have HlA := Lib.hid hA
  have HlB := Lib.hid hB
  have hYlow := hB
  clear hyc hA hB
  obtain ⟨N, hN⟩ : ∃ N, A.length = N := ⟨_, rfl⟩
  obtain ⟨M, hM⟩ : ∃ M, B.length = M := ⟨_, rfl⟩
  have HN := Lib.hid hN
  have HM := Lib.hid hM
  rw [hN] at x1 HX0 hlen hl
  rw [hM] at y1 HY0 hl
  rw [hN, hM]
  clear hN hM
  have hMl : M ≤ N := by omega
  have HYl := Lib.hid hYlow
  clear hYlow
  go_enter Tryd.func65, Tryd.ntmps65
  go_wp2_with (at_make; refine wpList_make_blk _ rfl _ _ 31 rfl 74 i0 .u32 Tryd.underlying31 Hi.out Hz0.out Hz1.out _ _ _ _ (N + 1) rfl rfl (by omega) (by omega) (by rw [Hz2.out]; omega) (by omega) ?_)
  intro w1 hblk hB1 hz1
  obtain ⟨g, hg⟩ : ∃ g, w.heap.size = g := ⟨_, rfl⟩
  have Hg := Lib.hid hg
  rw [hg] at hblk hB1 hz1 ⊢
  clear hg
  have Hblk1 := Lib.hid (hblk.alloc (.cells #[.slice (some ⟨g, 0, none⟩) (N + 1) (N + 1)] 31))
  have HB2 := Lib.hid (hB1.alloc (Nat.le_of_lt hz1) (.cells #[.slice (some ⟨g, 0, none⟩) (N + 1) (N + 1)] 31))
  have HX1 := Lib.hid ((HX0.out.below (by rw [Hg.out]; exact Nat.le_refl _) HB2.out))
  clear hblk hB1
  go_wp2_with (with_reducible refine wpList_copy_blk rfl (.tmp 22) (.tmp 23) 31 rfl 74 Tryd.underlying31 size32 .u32 g (N + 1) (N + 1) (List.replicate (N + 1) 0) A xa N xcap rfl rfl Hblk1.out (List.length_replicate ..) HN.out (Nat.le_succ _) HX1.out ?_)
  intro w3 hb3 hO3 hs3
  obtain ⟨sb, hsb⟩ : ∃ sb, w1.heap.size = sb := ⟨_, rfl⟩
  have hgs : g < sb := by omega
  have hs3' : w3.heap.size = sb + 1 := by rw [← hsb]; simpa using hs3
  have Hsb3 := Lib.hid (hO3.one (One.new w1 31 (.slice (some ⟨g, 0, none⟩) (N + 1) (N + 1))) (by omega))
  have HB3 := Lib.hid (hO3.below HB2.out (by simp; omega) (fun b e => by rw [e]; exact Nat.le_refl _))
  have HY3 := Lib.hid (HY0.out.below (by rw [Hg.out]; exact Nat.le_refl _) HB3.out)
  rw [hsb] at Hsb3 ⊢
  have hL3 : A ++ (List.replicate (N + 1) 0).drop A.length = A ++ [0] := by
    rw [HN.out, List.drop_replicate, show N + 1 - N = 1 by omega]; rfl
  have Hb3 : Hid (Blk w3 g 74 .u32 (A ++ [0])) := Lib.hid (by rw [← hL3]; simpa using hb3)
  clear hb3 hO3 hs3 hsb hL3 Hblk1 HB2 HX1 HX0
  go_wp2_with fail
  have hcb0 := One.new w3 89 (.int .u64 0)
  rw [hs3'] at hcb0
  obtain ⟨w4, hw4⟩ : ∃ w4, w3.alloc (.cells #[.int .u64 0] 89) = w4 := ⟨_, rfl⟩
  have Hb4 := Lib.hid (Hb3.out.alloc (.cells #[.int .u64 0] 89))
  have Hsb4 := Lib.hid (Hsb3.out.alloc (.cells #[.int .u64 0] 89))
  have HB4 := Lib.hid (HB3.out.alloc (by omega) (.cells #[.int .u64 0] 89))
  have Hcb4 := Lib.hid hcb0
  rw [hw4] at Hb4 Hsb4 HB4 Hcb4 ⊢
  have Hs4 : Hid (w4.heap.size = sb + 1 + 1) := Lib.hid (by rw [← hw4, World.size_alloc, hs3'])
  clear hcb0 hw4 Hb3 Hsb3 HB3 hs3' HY3
  have HI0 := Lib.hid (PlusI.start A B N HN.out HlA.out)
  go_loopw [28] (fun i wr => ∃ (k c : Nat) (L : List Nat), k ≤ M ∧ i = .int .i64 k ∧ Hid (PlusI A B N k c L) ∧ Hid (Blk wr g 74 .u32 L) ∧ Hid (One wr (sb + 1) 89 (.int .u64 (c : Int))) ∧ Hid (One wr sb 31 (.slice (some ⟨g, 0, none⟩) (N + 1) (N + 1))) ∧ Hid (Below g w wr)) (fun i _ => M - (intOf i).toNat)
  case atStart => exact ⟨0, 0, _, by omega, rfl, HI0, Hb4, Hcb4, Hsb4, HB4⟩
  case round =>
    obtain ⟨k, c, L, hk, rfl, hI, hbl, hcb, hsb, hB⟩ := hrel
    have hgw := hbl.out.lt
    by_cases hlt : k < M
    · have hy : k < B.length := by rw [HM.out]; exact hlt
      have hkl : k < L.length := by rw [hI.out.len]; omega
      obtain ⟨b, off, rfl, hb, hcc⟩ := Hyc.out (by omega)
      rw [Hg.out] at hb
      have cy := (hB.out.cell (p := ⟨b, off + k, none⟩) hb).trans (hcc k hy)
      have hyl : B[k] < 4294967296 := HlB.out _ (List.getElem_mem hy)
      have Hnext := Lib.hid (hI.out.next hkl hy HlB.out)
      have hc1 := hI.out.c1
      have Hp := Lib.hid (pass_any k (N + 1) g (sb + 1) sb c B[k] L wr hI.out.len hkl (by omega) hbl.out hcb.out hsb.out (by omega) (by omega) (by omega) (by omega) hyl hI.out.low)
      clear hcc
      generalize B[k] = y at *
      go_wp2_with (go_at_call 83; refine Hp.out.mono ?_; rintro e w5 ⟨⟨v5, rfl⟩, q1, q2, q3, q4⟩; have Q1 := Lib.hid q1; have Q2 := Lib.hid q2; have Q3 := Lib.hid q3; have Q4 := Lib.hid q4; clear q1 q2 q3 q4)
      go_roundw
      case rel => exact ⟨k + 1, _, _, by omega, by go_num, Hnext, Q1, Q2, Q3, Lib.hid (Q4.out.below hB.out (by omega) (fun b e => by rcases e with e | e <;> omega))⟩
      case measure => simp [intOf]; omega
    · obtain rfl : k = M := by omega
      clear hlt
      go_wp2_with fail
      obtain ⟨wo, rfl⟩ : ∃ wo : World, wo = wr := ⟨_, rfl⟩
      go_loopw [10] (fun i wr => ∃ (m c : Nat) (L : List Nat), k ≤ m ∧ m ≤ N + 1 ∧ i = .int .i64 m ∧ Hid (PlusI A B N m c L) ∧ Hid (Blk wr g 74 .u32 L) ∧ Hid (One wr (sb + 1) 89 (.int .u64 (c : Int))) ∧ Hid (One wr sb 31 (.slice (some ⟨g, 0, none⟩) (N + 1) (N + 1))) ∧ Hid (Below g w wr)) (fun i _ => N + 1 - (intOf i).toNat)
      case atStart => exact ⟨k, c, L, Nat.le_refl _, by omega, rfl, hI, hbl, hcb, hsb, hB⟩
      case round =>
        clear hI hbl hcb hsb hB hgw
        obtain ⟨m, c2, L2, hm1, hm2, rfl, hI, hbl, hcb, hsb, hB⟩ := hrel
        have hgw := hbl.out.lt
        have ccb := hcb.out.cell
        have hYk : B.length ≤ m := by rw [HM.out]; exact hm1
        by_cases hc0 : c2 = 0
        · subst hc0
          have csb := hsb.out.cell
          have hlen2 := hI.out.len
          have Htr := Lib.hid (trim_any (.slice (some ⟨g, 0, none⟩) (N + 1) (N + 1)) L2 wr (by
            have := RowAt.of_blk hbl.out (cap := N + 1) (by omega) (by omega)
            rw [hlen2] at this
            exact this) hI.out.low (by omega))
          rw [hI.out.done hYk] at Htr
          clear hlen2
          go_wp2_with (go_at_call 59; refine Htr.out.mono ?_; rintro e w6 ⟨v6, rfl, q1, rfl⟩; have Q1 := Lib.hid q1; clear q1)
          go_ret
          exact ⟨_, rfl, Q1.out, by rw [Hg.out]; exact hB.out⟩
        · have hmN := hI.out.room HlA.out HlB.out HN.out (by rw [HM.out]; omega) hm2 hYk hc0
          have hkl : m < L2.length := by rw [hI.out.len]; omega
          have Hnext := Lib.hid (hI.out.over hkl hYk)
          have hc1 := hI.out.c1
          have Hp := Lib.hid (pass_any m (N + 1) g (sb + 1) sb c2 0 L2 wr hI.out.len hkl (by omega) hbl.out hcb.out hsb.out (by omega) (by omega) (by omega) (by omega) (by omega) hI.out.low)
          have hcpos : 0 < c2 := by omega
          clear hc0
          go_wp2_with (go_at_call 83; refine Hp.out.mono ?_; rintro e w5 ⟨⟨v5, rfl⟩, q1, q2, q3, q4⟩; have Q1 := Lib.hid q1; have Q2 := Lib.hid q2; have Q3 := Lib.hid q3; have Q4 := Lib.hid q4; clear q1 q2 q3 q4)
          go_roundw
          case rel => exact ⟨m + 1, _, _, by omega, by omega, by go_num, Hnext, Q1, Q2, Q3, Lib.hid (Q4.out.below hB.out (by omega) (fun b e => by rcases e with e | e <;> omega))⟩
          case measure => simp [intOf]; omega

set_option maxRecDepth 100000 in
set_option maxHeartbeats 2000000 in
theorem plus_lt (va vb : Value) (A B : List Nat) (w : World) (ha : RowAt .u32 w va A) (hb : RowAt .u32 w vb B) (hA : Low W2 A) (hB : Low W2 B) (hl : A.length < B.length) (hlen : B.length ≤ 1048576) :
    Calls Tryd.prog 65 #[va, vb] w fun e w' => ∃ v, e = .returned v ∧ RowAt .u32 w' v (digs W2 (val W2 A + val W2 B)) ∧ Below w.heap.size w w' := by
  obtain ⟨i0, hi, hz0, hz1, hz2⟩ := info_parts info32
  have Hi := Lib.hid hi
  have Hz0 := Lib.hid hz0
  have Hz1 := Lib.hid hz1
  have Hz2 := Lib.hid hz2
  clear hi hz0 hz1 hz2
  have HX0 := Lib.hid hb
  have HY0 := Lib.hid ha
  obtain ⟨xa, xcap, hvx, x1, x2, _⟩ := hb
  obtain ⟨ya, ycap, hvy, y1, y2, hyc⟩ := ha
  subst hvx hvy
  have Hyc := Lib.hid hyc
  have HlA := Lib.hid hB
  have HlB := Lib.hid hA
  have hYlow := hA
  clear hyc hA hB
  obtain ⟨N, hN⟩ : ∃ N, B.length = N := ⟨_, rfl⟩
  obtain ⟨M, hM⟩ : ∃ M, A.length = M := ⟨_, rfl⟩
  have HN := Lib.hid hN
  have HM := Lib.hid hM
  rw [hN] at x1 HX0 hlen hl
  rw [hM] at y1 HY0 hl
  rw [hN, hM]
  clear hN hM
  have hMl : M ≤ N := by omega
  have HYl := Lib.hid hYlow
  clear hYlow
  go_enter Tryd.func65, Tryd.ntmps65
  go_wp2_with (at_make; refine wpList_make_blk _ rfl _ _ 31 rfl 74 i0 .u32 Tryd.underlying31 Hi.out Hz0.out Hz1.out _ _ _ _ (N + 1) rfl rfl (by omega) (by omega) (by rw [Hz2.out]; omega) (by omega) ?_)
  intro w1 hblk hB1 hz1
  obtain ⟨g, hg⟩ : ∃ g, w.heap.size = g := ⟨_, rfl⟩
  have Hg := Lib.hid hg
  rw [hg] at hblk hB1 hz1 ⊢
  clear hg
  have Hblk1 := Lib.hid (hblk.alloc (.cells #[.slice (some ⟨g, 0, none⟩) (N + 1) (N + 1)] 31))
  have HB2 := Lib.hid (hB1.alloc (Nat.le_of_lt hz1) (.cells #[.slice (some ⟨g, 0, none⟩) (N + 1) (N + 1)] 31))
  have HX1 := Lib.hid ((HX0.out.below (by rw [Hg.out]; exact Nat.le_refl _) HB2.out))
  clear hblk hB1
  go_wp2_with (with_reducible refine wpList_copy_blk rfl (.tmp 22) (.tmp 23) 31 rfl 74 Tryd.underlying31 size32 .u32 g (N + 1) (N + 1) (List.replicate (N + 1) 0) B xa N xcap rfl rfl Hblk1.out (List.length_replicate ..) HN.out (Nat.le_succ _) HX1.out ?_)
  intro w3 hb3 hO3 hs3
  obtain ⟨sb, hsb⟩ : ∃ sb, w1.heap.size = sb := ⟨_, rfl⟩
  have hgs : g < sb := by omega
  have hs3' : w3.heap.size = sb + 1 := by rw [← hsb]; simpa using hs3
  have Hsb3 := Lib.hid (hO3.one (One.new w1 31 (.slice (some ⟨g, 0, none⟩) (N + 1) (N + 1))) (by omega))
  have HB3 := Lib.hid (hO3.below HB2.out (by simp; omega) (fun b e => by rw [e]; exact Nat.le_refl _))
  have HY3 := Lib.hid (HY0.out.below (by rw [Hg.out]; exact Nat.le_refl _) HB3.out)
  rw [hsb] at Hsb3 ⊢
  have hL3 : B ++ (List.replicate (N + 1) 0).drop B.length = B ++ [0] := by
    rw [HN.out, List.drop_replicate, show N + 1 - N = 1 by omega]; rfl
  have Hb3 : Hid (Blk w3 g 74 .u32 (B ++ [0])) := Lib.hid (by rw [← hL3]; simpa using hb3)
  clear hb3 hO3 hs3 hsb hL3 Hblk1 HB2 HX1 HX0
  go_wp2_with fail
  have hcb0 := One.new w3 89 (.int .u64 0)
  rw [hs3'] at hcb0
  obtain ⟨w4, hw4⟩ : ∃ w4, w3.alloc (.cells #[.int .u64 0] 89) = w4 := ⟨_, rfl⟩
  have Hb4 := Lib.hid (Hb3.out.alloc (.cells #[.int .u64 0] 89))
  have Hsb4 := Lib.hid (Hsb3.out.alloc (.cells #[.int .u64 0] 89))
  have HB4 := Lib.hid (HB3.out.alloc (by omega) (.cells #[.int .u64 0] 89))
  have Hcb4 := Lib.hid hcb0
  rw [hw4] at Hb4 Hsb4 HB4 Hcb4 ⊢
  have Hs4 : Hid (w4.heap.size = sb + 1 + 1) := Lib.hid (by rw [← hw4, World.size_alloc, hs3'])
  clear hcb0 hw4 Hb3 Hsb3 HB3 hs3' HY3
  have HI0 := Lib.hid (PlusI.start B A N HN.out HlA.out)
  go_loopw [28] (fun i wr => ∃ (k c : Nat) (L : List Nat), k ≤ M ∧ i = .int .i64 k ∧ Hid (PlusI B A N k c L) ∧ Hid (Blk wr g 74 .u32 L) ∧ Hid (One wr (sb + 1) 89 (.int .u64 (c : Int))) ∧ Hid (One wr sb 31 (.slice (some ⟨g, 0, none⟩) (N + 1) (N + 1))) ∧ Hid (Below g w wr)) (fun i _ => M - (intOf i).toNat)
  case atStart => exact ⟨0, 0, _, by omega, rfl, HI0, Hb4, Hcb4, Hsb4, HB4⟩
  case round =>
    obtain ⟨k, c, L, hk, rfl, hI, hbl, hcb, hsb, hB⟩ := hrel
    have hgw := hbl.out.lt
    by_cases hlt : k < M
    · have hy : k < A.length := by rw [HM.out]; exact hlt
      have hkl : k < L.length := by rw [hI.out.len]; omega
      obtain ⟨b, off, rfl, hb, hcc⟩ := Hyc.out (by omega)
      rw [Hg.out] at hb
      have cy := (hB.out.cell (p := ⟨b, off + k, none⟩) hb).trans (hcc k hy)
      have hyl : A[k] < 4294967296 := HlB.out _ (List.getElem_mem hy)
      have Hnext := Lib.hid (hI.out.next hkl hy HlB.out)
      have hc1 := hI.out.c1
      have Hp := Lib.hid (pass_any k (N + 1) g (sb + 1) sb c A[k] L wr hI.out.len hkl (by omega) hbl.out hcb.out hsb.out (by omega) (by omega) (by omega) (by omega) hyl hI.out.low)
      clear hcc
      generalize A[k] = y at *
      go_wp2_with (go_at_call 83; refine Hp.out.mono ?_; rintro e w5 ⟨⟨v5, rfl⟩, q1, q2, q3, q4⟩; have Q1 := Lib.hid q1; have Q2 := Lib.hid q2; have Q3 := Lib.hid q3; have Q4 := Lib.hid q4; clear q1 q2 q3 q4)
      go_roundw
      case rel => exact ⟨k + 1, _, _, by omega, by go_num, Hnext, Q1, Q2, Q3, Lib.hid (Q4.out.below hB.out (by omega) (fun b e => by rcases e with e | e <;> omega))⟩
      case measure => simp [intOf]; omega
    · obtain rfl : k = M := by omega
      clear hlt
      go_wp2_with fail
      obtain ⟨wo, rfl⟩ : ∃ wo : World, wo = wr := ⟨_, rfl⟩
      go_loopw [10] (fun i wr => ∃ (m c : Nat) (L : List Nat), k ≤ m ∧ m ≤ N + 1 ∧ i = .int .i64 m ∧ Hid (PlusI B A N m c L) ∧ Hid (Blk wr g 74 .u32 L) ∧ Hid (One wr (sb + 1) 89 (.int .u64 (c : Int))) ∧ Hid (One wr sb 31 (.slice (some ⟨g, 0, none⟩) (N + 1) (N + 1))) ∧ Hid (Below g w wr)) (fun i _ => N + 1 - (intOf i).toNat)
      case atStart => exact ⟨k, c, L, Nat.le_refl _, by omega, rfl, hI, hbl, hcb, hsb, hB⟩
      case round =>
        clear hI hbl hcb hsb hB hgw
        obtain ⟨m, c2, L2, hm1, hm2, rfl, hI, hbl, hcb, hsb, hB⟩ := hrel
        have hgw := hbl.out.lt
        have ccb := hcb.out.cell
        have hYk : A.length ≤ m := by rw [HM.out]; exact hm1
        by_cases hc0 : c2 = 0
        · subst hc0
          have csb := hsb.out.cell
          have hlen2 := hI.out.len
          have Htr := Lib.hid (trim_any (.slice (some ⟨g, 0, none⟩) (N + 1) (N + 1)) L2 wr (by
            have := RowAt.of_blk hbl.out (cap := N + 1) (by omega) (by omega)
            rw [hlen2] at this
            exact this) hI.out.low (by omega))
          rw [hI.out.done hYk] at Htr
          clear hlen2
          go_wp2_with (go_at_call 59; refine Htr.out.mono ?_; rintro e w6 ⟨v6, rfl, q1, rfl⟩; have Q1 := Lib.hid q1; clear q1)
          go_ret
          exact ⟨_, rfl, by have h9 := Q1.out; rw [Nat.add_comm (val W2 B)] at h9; exact h9, by rw [Hg.out]; exact hB.out⟩
        · have hmN := hI.out.room HlA.out HlB.out HN.out (by rw [HM.out]; omega) hm2 hYk hc0
          have hkl : m < L2.length := by rw [hI.out.len]; omega
          have Hnext := Lib.hid (hI.out.over hkl hYk)
          have hc1 := hI.out.c1
          have Hp := Lib.hid (pass_any m (N + 1) g (sb + 1) sb c2 0 L2 wr hI.out.len hkl (by omega) hbl.out hcb.out hsb.out (by omega) (by omega) (by omega) (by omega) (by omega) hI.out.low)
          have hcpos : 0 < c2 := by omega
          clear hc0
          go_wp2_with (go_at_call 83; refine Hp.out.mono ?_; rintro e w5 ⟨⟨v5, rfl⟩, q1, q2, q3, q4⟩; have Q1 := Lib.hid q1; have Q2 := Lib.hid q2; have Q3 := Lib.hid q3; have Q4 := Lib.hid q4; clear q1 q2 q3 q4)
          go_roundw
          case rel => exact ⟨m + 1, _, _, by omega, by omega, by go_num, Hnext, Q1, Q2, Q3, Lib.hid (Q4.out.below hB.out (by omega) (fun b e => by rcases e with e | e <;> omega))⟩
          case measure => simp [intOf]; omega

/-- a magnitude: the words of n -/
def MagAt (w : World) (v : Value) (n : Nat) : Prop := RowAt .u32 w v (digs W2 n)

theorem plus_any (va vb : Value) (m n : Nat) (w : World) (ha : MagAt w va m) (hb : MagAt w vb n) (hl1 : (digs W2 m).length ≤ 1048576) (hl2 : (digs W2 n).length ≤ 1048576) :
    Calls Tryd.prog 65 #[va, vb] w fun e w' => ∃ v, e = .returned v ∧ MagAt w' v (m + n) ∧ Below w.heap.size w w' := by
  have key : Calls Tryd.prog 65 #[va, vb] w fun e w' => ∃ v, e = .returned v ∧ RowAt .u32 w' v (digs W2 (val W2 (digs W2 m) + val W2 (digs W2 n))) ∧ Below w.heap.size w w' := by
    by_cases h : (digs W2 m).length < (digs W2 n).length
    · exact plus_lt va vb _ _ w ha hb (digs_low W2 w2_two m) (digs_low W2 w2_two n) h hl2
    · exact plus_ge va vb _ _ w ha hb (digs_low W2 w2_two m) (digs_low W2 w2_two n) (by omega) hl1
  rw [val_digs W2 w2_two, val_digs W2 w2_two] at key
  exact key

end Go.Proofs.YtgfgjnkndfgdiaaDoor
