/- the reference's integers: Sub, Mul. -/
import Derived.Test.YtgfgjnkndfgdiaaDoorR5Add
namespace Go.Proofs.YtgfgjnkndfgdiaaDoor
open Go.RowKit

set_option maxRecDepth 100000 in
set_option maxHeartbeats 400000 in
theorem rsub_any (vx vy : Value) (x y : Int) (w : World) (hx : RInt w vx x) (hy : RInt w vy y) (hlx : (digs T4 x.natAbs).length ≤ 1048576) (hly : (digs T4 y.natAbs).length ≤ 1048576) :
    Calls Tryd.prog 34 #[vx, vy] w (RPost (x - y) w) := by
  have HX0 := Lib.hid hx
  have HY0 := Lib.hid hy
  obtain ⟨ax, nx, cx, rfl, -, -, -⟩ := hx.form
  obtain ⟨ay, ny, cy, rfl, -, -, -⟩ := hy.form
  have hly2 : (digs T4 (-y).natAbs).length ≤ 1048576 := by rw [Int.natAbs_neg]; exact hly
  clear hx hy
  obtain ⟨n, hn⟩ : ∃ n, w.heap.size = n := ⟨_, rfl⟩
  have Hn := Lib.hid hn
  obtain ⟨W, hW, t1, t2, t3, hBW, hsW⟩ := boxes3 w 25 (.bool (decide (x < 0))) (.slice ax nx cx) (.bool (decide (y < 0))) (.slice ay ny cy) (.bool false) (.slice none 0 0) n hn
  have Hs1 := Lib.hid (fun w' (hb : Below n w w') => rneg_any (.agg #[.bool (decide (y < 0)), .slice ay ny cy]) y w' (HY0.out.below (Nat.le_of_eq hn) hb) (by omega))
  have Ha := Lib.hid (fun v w' (hb : Below n w w') (hv : RInt w' v (-y)) => radd_any (.agg #[.bool (decide (x < 0)), .slice ax nx cx]) v x (-y) w' (HX0.out.below (Nat.le_of_eq hn) hb) hv hlx hly2)
  have hxy : x + -y = x - y := by omega
  rw [hxy] at Ha
  clear HX0 HY0 hlx hly hly2 hxy
  generalize decide (x < 0) = sx at *
  generalize decide (y < 0) = sy at *
  have HBW := Lib.hid hBW
  have T3 : Hid (Two W.drew (n + 1 + 1) 25 (.bool false) (.slice none 0 0)) := Lib.hid t3
  have HS0 : Hid (Held4 n (.bool sx) (.slice ax nx cx) (.bool sy) (.slice ay ny cy) W.drew) := Lib.hid ⟨t1.cell0, t1.cell1, t2.cell0, t2.cell1⟩
  have hs0 : n + 1 + 1 + 1 ≤ W.drew.heap.size := by show _ ≤ W.heap.size; omega
  have d0 := t1.cell0
  have d1 := t1.cell1
  have d2 := t2.cell0
  have d3 := t2.cell1
  clear t1 t2 t3 hBW
  go_enter Tryd.func34, Tryd.ntmps34
  go_wp2_with fail
  clear hW
  go_region_held3 (fun w' => w'.cell? ⟨n, 0, none⟩ = some (.bool sx) ∧ w'.cell? ⟨n, 1, none⟩ = some (.slice ax nx cx) ∧ w'.cell? ⟨n + 1, 0, none⟩ = some (.bool sy) ∧ w'.cell? ⟨n + 1, 1, none⟩ = some (.slice ay ny cy))
    (first | (exact HS.out) | (exact Held4.set2 HS.out _ _) | go_keep)
    (first
      | (go_at_call 36; refine (Hs1.out _ HBW.out.drew).mono ?_; rintro e w5 ⟨⟨v5, rfl, hr5⟩, hB5⟩; have Hr5 := Lib.hid hr5; obtain ⟨a5, l5, c5, rfl, -, -, -⟩ := hr5.form; clear hr5; generalize decide (-y < 0) = sz at *; have HB5 := Lib.hid hB5; have HS5 := Lib.hid (HS0.out.below hB5 hs0); have s5 := HS5.out.2; have HS := Lib.hid HS5.out.1; have HBW5 := Lib.hid (HBW.out.drew.trans (hB5.mono (by omega))); clear hB5)
      | (go_at_call 29; refine (Ha.out _ w5 HBW5.out Hr5.out).mono ?_; rintro e w6 ⟨⟨v6, rfl, hr6⟩, hB6⟩; have Hr6 := Lib.hid hr6; obtain ⟨a6, l6, c6, rfl, -, -, -⟩ := hr6.form; have HB6 := Lib.hid hB6; have HS6 := Lib.hid (HS.out.below hB6 s5); clear HS; have s6 := HS6.out.2; have HS := Lib.hid HS6.out.1; have T6 := (T3.out.below HB5.out (by omega)).below hB6 (by omega); have g0 := T6.cell0; have g1 := T6.cell1; have g2 := T6.frozen 0; have g3 := T6.frozen 1; have T6 := Lib.hid T6; clear hB6 hr6))
  go_wp2
  refine bodyPost_ret (v := .agg #[.bool (decide (x - y < 0)), .slice a6 l6 c6]) (by simp [results, Tryd.results34, go_sem, g0, g1]) rfl ⟨⟨_, rfl, Hr6.out.set_two T6.out _ _⟩, ?_⟩
  rw [Hn.out]
  exact ((HBW5.out.trans (HB6.out.mono (by omega))).setCell (p := ⟨n + 1 + 1, 0, none⟩) (by show n ≤ n + 1 + 1; omega) _).setCell (p := ⟨n + 1 + 1, 1, none⟩) (by show n ≤ n + 1 + 1; omega) _

theorem RowAt.whole {k : IntKind} {w : World} {a : Option Addr} {n c : Nat} {L : List Nat} (h : RowAt k w (.slice a n c) L) :
    0 < L.length → ∃ b off, a = some ⟨b, off, none⟩ ∧ b < w.heap.size ∧ ∀ j (h : j < L.length), w.cell? ⟨b, off + j, none⟩ = some (.int k (L[j] : Int)) := by
  obtain ⟨a', c', e, _, _, hc⟩ := h
  injection e with e1 e2 e3
  subst e1
  exact hc

theorem acc_step4 (L : List Nat) (k c x : Nat) (h : k < L.length) : val T4 (L.set k ((c + (x + L[k])) % T4)) + (c + (x + L[k])) / T4 * T4 ^ (k + 1) = val T4 L + (c + x) * T4 ^ k := by
  have h1 := val_set T4 L k ((c + (x + L[k])) % T4) h
  have h2 := Nat.div_add_mod (c + (x + L[k])) T4
  rw [Nat.pow_succ]
  generalize (c + (x + L[k])) % T4 = r at *
  generalize hq : (c + (x + L[k])) / T4 = q at *
  generalize T4 ^ k = p at *
  generalize L[k] = s at *
  generalize val T4 L = v at *
  generalize val T4 (L.set k r) = v' at *
  generalize T4 = B at *
  grind

/-- between two rows -/
structure RMulI (A B : List Nat) (S k : Nat) (L : List Nat) : Prop where
  len : L.length = S
  low : Low T4 L
  zero : ∀ j (h : j < L.length), k + B.length ≤ j → L[j] = 0
  eq : val T4 L = val T4 (A.take k) * val T4 B

/-- inside a row -/
structure RMulJ (A B : List Nat) (S k j c : Nat) (x : Nat) (L : List Nat) : Prop where
  len : L.length = S
  low : Low T4 L
  c1 : c < T4
  zero : ∀ i (h : i < L.length), k + B.length ≤ i → L[i] = 0
  eq : val T4 L + c * T4 ^ (k + j) = val T4 (A.take k) * val T4 B + x * val T4 (B.take j) * T4 ^ k

theorem RMulI.start (A B : List Nat) (S : Nat) : RMulI A B S 0 (List.replicate S 0) :=
  ⟨by simp, fun x hx => by rw [(List.mem_replicate.1 hx).2]; decide, fun j h _ => by simp, by rw [val_zeros T4 _ (fun x hx => (List.mem_replicate.1 hx).2)]; simp [val]⟩

theorem RMulI.inner {A B : List Nat} {S k : Nat} {L : List Nat} (h : RMulI A B S k L) (x : Nat) : RMulJ A B S k 0 0 x L :=
  ⟨h.len, h.low, by decide, h.zero, by rw [h.eq]; simp [val]⟩

theorem RMulJ.bound {A B : List Nat} {S k j c x : Nat} {L : List Nat} (h : RMulJ A B S k j c x L) (y : Nat) (hx : x < T4) (hy : y < T4) (i : Nat) (hi : i < L.length) : c + (x * y + L[i]) ≤ 99999999 := by
  have h1 : x * y ≤ 9999 * 9999 := Nat.mul_le_mul (Nat.le_of_lt_succ hx) (Nat.le_of_lt_succ hy)
  have h2 : c < 10000 := h.c1
  have h3 : L[i] < 10000 := h.low _ (List.getElem_mem hi)
  omega

theorem RMulJ.next {A B : List Nat} {S k j c x : Nat} {L : List Nat} (h : RMulJ A B S k j c x L) (hj : j < B.length) (hkj : k + j < L.length) (hB : Low T4 B) (hx : x < T4) :
    RMulJ A B S k (j + 1) ((c + (x * B[j] + L[k + j])) / T4) x (L.set (k + j) ((c + (x * B[j] + L[k + j])) % T4)) := by
  have hb := h.bound B[j] hx (hB _ (List.getElem_mem hj)) (k + j) hkj
  refine ⟨by rw [List.length_set]; exact h.len, low_set h.low _ _ (Nat.mod_lt _ (by decide)), ?_, fun i hi hki => ?_, ?_⟩
  · apply (Nat.div_lt_iff_lt_mul (show 0 < T4 by decide)).2
    show _ < 10000 * 10000
    omega
  · rw [List.getElem_set_ne (by omega)]
    exact h.zero i (by rw [List.length_set] at hi; exact hi) (by omega)
  · have e := acc_step4 L (k + j) c (x * B[j]) hkj
    rw [show k + (j + 1) = k + j + 1 by omega, e, val_take_succ T4 B j hj]
    have h1 := h.eq
    rw [Nat.pow_add] at h1 ⊢
    generalize T4 ^ k = p at *
    generalize T4 ^ j = q at *
    generalize val T4 (B.take j) = v at *
    generalize B[j] = y at *
    grind

theorem RMulJ.done {A B : List Nat} {S k c : Nat} {L : List Nat} (hk : k < A.length) (h : RMulJ A B S k B.length c A[k] L) (hkj : k + B.length < L.length) : RMulI A B S (k + 1) (L.set (k + B.length) c) := by
  refine ⟨by rw [List.length_set]; exact h.len, low_set h.low _ _ h.c1, fun i hi hki => ?_, ?_⟩
  · rw [List.getElem_set_ne (by omega)]
    exact h.zero i (by rw [List.length_set] at hi; exact hi) (by omega)
  · have e := val_set T4 L (k + B.length) c hkj
    rw [h.zero _ hkj (Nat.le_refl _)] at e
    have h1 := h.eq
    rw [List.take_of_length_le (Nat.le_refl _)] at h1
    rw [val_take_succ T4 A k hk]
    generalize T4 ^ (k + B.length) = P at *
    generalize T4 ^ k = p at *
    generalize val T4 B = v at *
    generalize A[k] = y at *
    grind


set_option maxRecDepth 100000 in
set_option maxHeartbeats 1000000 in
theorem rmul_any (vx vy : Value) (x y : Int) (w : World) (hx : RInt w vx x) (hy : RInt w vy y) (hlx : (digs T4 x.natAbs).length ≤ 1048576) (hly : (digs T4 y.natAbs).length ≤ 1048576) :
    Calls Tryd.prog 28 #[vx, vy] w (RPost (x * y) w) := by
  obtain ⟨i0, hi, hz0, hz1, hz2⟩ := info_parts infoInt
  have Hi := Lib.hid hi
  have Hz0 := Lib.hid hz0
  have Hz1 := Lib.hid hz1
  have Hz2 := Lib.hid hz2
  clear hi hz0 hz1 hz2
  obtain ⟨xa, N, xcap, rfl, hmx, hN, hNc⟩ := hx.form
  obtain ⟨ya, M, ycap, rfl, hmy, hM, hMc⟩ := hy.form
  have hsm := sgn_mul x y
  have hvx := val_digs T4 t4_two x.natAbs
  have hvy := val_digs T4 t4_two y.natAbs
  have HlA := Lib.hid (digs_low T4 t4_two x.natAbs)
  have HlB := Lib.hid (digs_low T4 t4_two y.natAbs)
  have Hxc := Lib.hid (RowAt.whole hmx)
  have Hyc := Lib.hid (RowAt.whole hmy)
  generalize digs T4 x.natAbs = A at *
  generalize digs T4 y.natAbs = B at *
  rw [← hvx, ← hvy] at hsm
  have Hsm := Lib.hid hsm
  rw [← hN] at hlx
  rw [← hM] at hly
  have HN := Lib.hid hN.symm
  have HM := Lib.hid hM.symm
  clear hx hy hmx hmy hN hM hvx hvy hsm
  obtain ⟨n, hn⟩ : ∃ n, w.heap.size = n := ⟨_, rfl⟩
  have Hn := Lib.hid hn
  obtain ⟨W, hW, t1, t2, t3, hBW, hsW⟩ := boxes3 w 25 (.bool (decide (x < 0))) (.slice xa N xcap) (.bool (decide (y < 0))) (.slice ya M ycap) (.bool false) (.slice none 0 0) n hn
  generalize decide (x < 0) = sx at *
  generalize decide (y < 0) = sy at *
  have d0 := t1.cell0
  have d1 := t1.cell1
  have d2 := t2.cell0
  have d3 := t2.cell1
  have HBW := Lib.hid hBW
  have HTX := Lib.hid t1
  have HTY := Lib.hid t2
  have HTZ := Lib.hid t3
  clear t1 t2 t3 hBW
  go_enter Tryd.func28, Tryd.ntmps28
  go_wp2_with (at_make; refine wpList_make_blk _ rfl _ _ 22 rfl 3 i0 .i64 Tryd.underlying22 Hi.out Hz0.out Hz1.out _ _ _ _ (N + M) rfl rfl (by omega) (by omega) (by rw [Hz2.out]; omega) (by omega) ?_)
  intro w1 hblk hB1 hz1
  have Hblk1 := Lib.hid hblk
  have HB1 := Lib.hid hB1
  obtain ⟨g, hg⟩ : ∃ g, n + 1 + 1 + 1 = g := ⟨_, rfl⟩
  have Hg := Lib.hid hg
  rw [hg] at Hblk1 HB1 hz1 hsW ⊢
  have hng : n + 2 < g := by omega
  clear hblk hB1 hg hW d0 d1 d2 d3
  have f1 := (HTX.out.below HB1.out (by omega)).cell1
  go_wp2_with fail
  have HI0 := Lib.hid (RMulI.start A B (N + M))
  go_loopw [6] (fun i wr => ∃ (k : Nat) (L : List Nat), k ≤ N ∧ i = .int .i64 k ∧ Hid (RMulI A B (N + M) k L) ∧ Hid (Blk wr g 3 .i64 L) ∧ Hid (Below g W wr)) (fun i _ => N - (intOf i).toNat)
  case atStart => exact ⟨0, _, by omega, rfl, HI0, Hblk1, HB1⟩
  case round =>
    clear f1
    obtain ⟨k, L, hk, rfl, hI, hbl, hB⟩ := hrel
    have hgw := hbl.out.lt
    have e1 := (HTX.out.below hB.out (by omega)).cell1
    have e3 := (HTY.out.below hB.out (by omega)).cell1
    by_cases hlt : k < N
    · have hka : k < A.length := by rw [HN.out]; exact hlt
      obtain ⟨xb, xoff, rfl, hxb, hxcc⟩ := Hxc.out (by omega)
      have hxg : xb < g := by omega
      have Hcx := Lib.hid (hxcc k hka)
      have hxl : A[k] < 10000 := HlA.out _ (List.getElem_mem hka)
      have HJ0 := Lib.hid (hI.out.inner A[k])
      obtain ⟨p, hp⟩ : ∃ p, A[k] = p := ⟨_, rfl⟩
      have Hp := Lib.hid hp
      rw [hp] at Hcx hxl HJ0
      clear hp hxcc
      go_wp2_with fail
      obtain ⟨wo, rfl⟩ : ∃ wo : World, wo = wr := ⟨_, rfl⟩
      go_loopw [7, 8] (fun cv i wr => ∃ (j c : Nat) (L : List Nat), j ≤ M ∧ c < 10000 ∧ cv = .int .i64 (c : Int) ∧ i = .int .i64 j ∧ Hid (RMulJ A B (N + M) k j c p L) ∧ Hid (Blk wr g 3 .i64 L) ∧ Hid (Below g W wr)) (fun _ i _ => M - (intOf i).toNat)
      case atStart => exact ⟨0, 0, L, by omega, by omega, rfl, rfl, HJ0, hbl, hB⟩
      case round =>
        clear hI hbl hB HJ0 e1 e3 hgw
        obtain ⟨j, c, L2, hj, hc, rfl, rfl, hJ, hbl, hB⟩ := hrel
        have hgw := hbl.out.lt
        have e1 := (HTX.out.below hB.out (by omega)).cell1
        have e3 := (HTY.out.below hB.out (by omega)).cell1
        by_cases hjl : j < M
        · have hjb : j < B.length := by rw [HM.out]; exact hjl
          have hkj : k + j < L2.length := by rw [hJ.out.len]; omega
          obtain ⟨yb, yoff, rfl, hyb, hycc⟩ := Hyc.out (by omega)
          have cx := (hB.out.cell (p := ⟨xb, xoff + k, none⟩) hxg).trans ((HBW.out.cell (p := ⟨xb, xoff + k, none⟩) (by show xb < n; omega)).trans Hcx.out)
          have cy := (hB.out.cell (p := ⟨yb, yoff + j, none⟩) (by show yb < g; omega)).trans ((HBW.out.cell (p := ⟨yb, yoff + j, none⟩) (by show yb < n; omega)).trans (hycc j hjb))
          have hyl : B[j] < 10000 := HlB.out _ (List.getElem_mem hjb)
          have hbd := hJ.out.bound B[j] hxl hyl (k + j) hkj
          have Hnext := Lib.hid (hJ.out.next hjb hkj HlB.out hxl)
          have cg := hbl.out.cell (k + j) hkj
          have fg := hbl.out.frozen (k + j)
          have hlo : L2[k + j] < 10000 := hJ.out.low _ (List.getElem_mem hkj)
          have hcn : (c + (p * B[j] + L2[k + j])) / T4 < T4 := Hnext.out.c1
          clear hycc
          generalize B[j] = q at *
          generalize L2[k + j] = s at *
          have hpq : p * q ≤ 9999 * 9999 := Nat.mul_le_mul (by omega) (by omega)
          obtain ⟨z, hz⟩ : ∃ z, p * q = z := ⟨_, rfl⟩
          have hzI : (p : Int) * (q : Int) = (z : Int) := by rw [← hz, Int.natCast_mul]
          rw [hz] at Hnext hcn hbd hpq
          have hcn2 : (c + (z + s)) / 10000 < 10000 := hcn
          obtain ⟨r, hr⟩ : ∃ r, (c + (z + s)) % T4 = r := ⟨_, rfl⟩
          obtain ⟨u, hu⟩ : ∃ u, (c + (z + s)) / T4 = u := ⟨_, rfl⟩
          rw [hr, hu] at Hnext
          have hr' : (c + (z + s)) % 10000 = r := hr
          have hu' : (c + (z + s)) / 10000 = u := hu
          have hrI : ((s : Int) + (z : Int) + (c : Int)) % 10000 = (r : Int) := by omega
          have huI : ((s : Int) + (z : Int) + (c : Int)) / 10000 = (u : Int) := by omega
          have hrl : r < 10000 := by omega
          have hul : u < 10000 := by omega
          clear hz hr hu hr' hu' hcn hcn2 hbd
          go_wp2_with fail
          go_quiet (fail)
          go_wp2_with fail
          go_roundw
          case rel => exact ⟨j + 1, u, _, by omega, hul, by rw [huI], by go_num, Hnext, Lib.hid ((hbl.out.drewN nq).set (k + j) _), Lib.hid ((below_drewN2 hB.out nq).setCell (p := ⟨g, k + j, none⟩) (Nat.le_refl _) _)⟩
          case measure => simp [intOf]; omega
        · obtain rfl : j = M := by omega
          clear hjl
          have hkj : k + j < L2.length := by rw [hJ.out.len]; omega
          have cg := hbl.out.cell (k + j) hkj
          have fg := hbl.out.frozen (k + j)
          have Hdone : Hid (RMulI A B (N + j) (k + 1) (L2.set (k + j) c)) := Lib.hid (by
            have hJ2 := hJ.out
            rw [← Hp.out, ← HM.out] at hJ2
            have := RMulJ.done hka hJ2 (by rw [HM.out]; exact hkj)
            rw [HM.out] at this
            exact this)
          go_wp2_with fail
          go_roundw
          case rel => exact ⟨k + 1, _, by omega, by go_num, Hdone, Lib.hid (hbl.out.set (k + j) _), Lib.hid (hB.out.setCell (p := ⟨g, k + j, none⟩) (Nat.le_refl _) _)⟩
          case measure => simp [intOf]; omega
    · obtain rfl : k = N := by omega
      clear hlt
      have hlen2 := hI.out.len
      have hv : val T4 L = val T4 A * val T4 B := by
        have := hI.out.eq
        rw [List.take_of_length_le (by rw [HN.out]; exact Nat.le_refl _)] at this
        exact this
      have Hno := Lib.hid (normal_any (sx != sy) (.slice (some ⟨g, 0, none⟩) (k + M) (k + M)) L wr (by
        have := RowAt.of_blk hbl.out (cap := k + M) (by omega) (by omega)
        rw [hlen2] at this
        exact this) hI.out.low (by omega))
      rw [hv, Hsm.out] at Hno
      clear hlen2 hv
      have e0 := (HTX.out.below hB.out (by omega)).cell0
      have e2 := (HTY.out.below hB.out (by omega)).cell0
      go_wp2_with fail
      refine Hno.out.mono ?_
      rintro e w5 ⟨⟨vr, rfl, hr⟩, hB5⟩
      have Hr := Lib.hid hr
      obtain ⟨a5, n5, c5, rfl, -, -, -⟩ := hr.form
      have HT5 := Lib.hid ((HTZ.out.below hB.out (by omega)).below hB5 (by omega))
      have f0 := HT5.out.cell0
      have f1 := HT5.out.cell1
      have f2 := HT5.out.frozen 0
      have f3 := HT5.out.frozen 1
      have HB5 := Lib.hid (HBW.out.trans ((hB.out.trans (hB5.mono (by omega))).mono (by omega)))
      clear hr hB5 Hno e0 e1 e2 e3
      go_wp2
      refine bodyPost_ret (v := .agg #[.bool (decide (x * y < 0)), .slice a5 n5 c5]) (by simp [results, Tryd.results28, go_sem, f0, f1]) rfl ⟨⟨_, rfl, Hr.out.set_two HT5.out _ _⟩, ?_⟩
      rw [Hn.out]
      exact (HB5.out.setCell (p := ⟨n + 1 + 1, 0, none⟩) (by show n ≤ n + 1 + 1; omega) _).setCell (p := ⟨n + 1 + 1, 1, none⟩) (by show n ≤ n + 1 + 1; omega) _

end Go.Proofs.YtgfgjnkndfgdiaaDoor
