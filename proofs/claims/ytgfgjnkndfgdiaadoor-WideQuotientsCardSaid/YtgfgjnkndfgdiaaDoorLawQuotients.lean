/- the law WideQuotients: its walk. -/
import Derived.Test.YtgfgjnkndfgdiaaDoorWQuo
import Derived.Test.YtgfgjnkndfgdiaaDoorR5Gcd
import Derived.Test.YtgfgjnkndfgdiaaDoorNRow
set_option linter.unusedVariables false
set_option linter.unusedSimpArgs false
namespace Go.Proofs.YtgfgjnkndfgdiaaDoor
open Go.RowKit

theorem lt_add {x y : Int} {a : Nat} (hx : x.natAbs < 2 ^ a) (hy : y.natAbs < 2 ^ a) : (x + y).natAbs < 2 ^ (a + 1) := by
  rw [Nat.pow_succ]
  omega
theorem lt_mul {x y : Int} {a b : Nat} (hx : x.natAbs < 2 ^ a) (hy : y.natAbs < 2 ^ b) : (x * y).natAbs < 2 ^ (a + b) := by
  rw [Int.natAbs_mul, Nat.pow_add]
  exact Nat.mul_lt_mul'' hx hy
theorem rint_zero (w : World) : RInt w (.agg #[.bool false, .slice none 0 0]) 0 := ⟨_, rfl, RowAt.nil none 0 (by omega)⟩
theorem lim_zero : (0 : Int).natAbs < LIM := lim_of_le (k := 0) (by decide) (by decide)
theorem RInt.len0 {w : World} {s : Bool} {a : Option Addr} {n c : Nat} {z : Int} (h : RInt w (.agg #[.bool s, .slice a n c]) z) : n = 0 ↔ z = 0 := by
  obtain ⟨_, _, hv, _⟩ := h.dig
  injection hv with _ e
  rw [e, List.length_eq_zero_iff, digs_nil T4 _ t4_two]
  omega

structure QLims (A B m : Int) : Prop where
  a : A.natAbs < LIM
  b : B.natAbs < LIM
  n : m.natAbs < LIM
  ab : (A * B).natAbs < LIM
  bb : (B * B).natAbs < LIM
  d : (A * B + m).natAbs < LIM
  g : (B * B * A).natAbs < LIM

theorem quot_lims (A B n : Int) (hA : A.natAbs < 2 ^ 230) (hB : B.natAbs < 2 ^ 230) (h1 : -9223372036854775808 ≤ n) (h2 : n ≤ 9223372036854775807) : QLims A B n := by
  have hn : n.natAbs < 2 ^ 64 := by omega
  obtain ⟨K, hK, hKA⟩ : ∃ K, K = 230 + 230 ∧ (A * B).natAbs < 2 ^ K := ⟨_, rfl, lt_mul hA hB⟩
  have hn2 : n.natAbs < 2 ^ K := Nat.lt_of_lt_of_le hn (Nat.pow_le_pow_right (by decide) (by omega))
  exact ⟨lim_of_le (k := 230) (by decide) hA, lim_of_le (k := 230) (by decide) hB, lim_of_le (k := 64) (by decide) hn, lim_of_le (k := 230 + 230) (by decide) (lt_mul hA hB), lim_of_le (k := 230 + 230) (by decide) (lt_mul hB hB), lim_of_le (k := K + 1) (by omega) (lt_add hKA hn2), lim_of_le (k := 230 + 230 + 230) (by decide) (lt_mul (lt_mul hB hB) hA)⟩

theorem quo_le (x y : Int) (h1 : qOf x y * y + (rOf x y : Int) = x) (h2 : rOf x y < y.natAbs) (hy : y ≠ 0) (hx : x.natAbs < LIM) (hl : y.natAbs < LIM) : (qOf x y).natAbs < LIM ∧ ((rOf x y : Nat) : Int).natAbs < LIM := by
  refine ⟨?_, by rw [Int.natAbs_natCast]; exact Nat.lt_trans h2 hl⟩
  by_cases h : x < 0 ∧ x.natAbs % y.natAbs ≠ 0
  · rw [(qOf_neg h).1, sgn_natAbs]
    have h3 : x.natAbs / y.natAbs + 1 ≤ x.natAbs := by
      have h4 := Nat.div_add_mod x.natAbs y.natAbs
      have h5 : x.natAbs / y.natAbs ≤ y.natAbs * (x.natAbs / y.natAbs) := Nat.le_mul_of_pos_left _ (by omega)
      have := h.2
      omega
    exact Nat.lt_of_le_of_lt h3 hx
  · rw [(qOf_pos h).1, sgn_natAbs]
    exact Nat.lt_of_le_of_lt (Nat.div_le_self _ _) hx

set_option maxRecDepth 100000 in
set_option maxHeartbeats 8000000 in
theorem wideQuotients_any (v : Value) (zs : List Int) (len : Nat) (n : Int) (w0 : World) (h : IntsAt w0 v zs len) (h1 : -9223372036854775808 ≤ n) (h2 : n ≤ 9223372036854775807) (hT : Pow10 w0) :
    Calls Tryd.prog 6 #[v, .int .i64 n] w0 fun e w' => e = .returned (.bool true) ∧ Below w0.heap.size w0 w' := by
  have HI := Lib.hid h
  have HP := Lib.hid hT
  have hg := hT.lt
  have HB := Lib.hid (Below.refl w0.heap.size w0)
  obtain ⟨va, vl, vc, rfl, hv⟩ : ∃ va vl vc, v = .slice va vl vc ∧ vl ≤ 9223372036854775807 := by
    rcases h with ⟨a, cap, rfl, rfl, hcap⟩ | ⟨b, off, cap, rfl, _, h1, h2, _⟩
    · exact ⟨_, _, _, rfl, by omega⟩
    · exact ⟨_, _, _, rfl, by omega⟩
  clear h hT
  go_enter Tryd.func6, Tryd.ntmps6
  go_wp2_with fail
  refine (number_any _ zs len 0 w0 (HI.out.below (Nat.le_refl _) HB.out) (by omega)).mono ?_
  rintro e w1 ⟨⟨va, rfl, ha⟩, hB⟩
  replace HB := Lib.hid (HB.out.trans (hB.mono HB.out.size))
  have Ha := Lib.hid ha
  obtain ⟨s_a, a_a, n_a, c_a, rfl⟩ := ha.form2
  clear hB ha
  obtain ⟨w2, hw⟩ : ∃ w', (w1.alloc (.cells #[.bool s_a, .slice a_a n_a c_a] 25)) = w' := ⟨_, rfl⟩
  have hB : Below w1.heap.size w1 w2 := by rw [← hw]; exact (Below.refl _ _).alloc (Nat.le_refl _) _
  obtain ⟨b_a, hb_a⟩ : ∃ b, w1.heap.size = b := ⟨_, rfl⟩
  have Ta' : Hid (Two w2 b_a 25 (.bool s_a) (.slice a_a n_a c_a)) := Lib.hid (by rw [← hw, ← hb_a]; have h9 := (Two.new w1 25 (.bool s_a) (.slice a_a n_a c_a)); exact h9)
  replace Ha := Lib.hid (Ha.out.below (Nat.le_refl _) hB)
  replace HB := Lib.hid (HB.out.trans (hB.mono HB.out.size))
  have Ta := Ta'
  clear hB Ta'
  go_wp2_with fail
  clear hw hb_a
  refine (number_any _ zs len 6 w2 (HI.out.below (Nat.le_refl _) HB.out) (by omega)).mono ?_
  rintro e w3 ⟨⟨vb, rfl, hb⟩, hB⟩
  replace Ha := Lib.hid (Ha.out.below (Nat.le_refl _) hB)
  replace Ta := Lib.hid (Ta.out.below hB Ta.out.lt)
  replace HB := Lib.hid (HB.out.trans (hB.mono HB.out.size))
  have Hb := Lib.hid hb
  obtain ⟨s_b, a_b, n_b, c_b, rfl⟩ := hb.form2
  clear hB hb
  obtain ⟨w4, hw⟩ : ∃ w', (w3.alloc (.cells #[.bool s_b, .slice a_b n_b c_b] 25)) = w' := ⟨_, rfl⟩
  have hB : Below w3.heap.size w3 w4 := by rw [← hw]; exact (Below.refl _ _).alloc (Nat.le_refl _) _
  obtain ⟨b_b, hb_b⟩ : ∃ b, w3.heap.size = b := ⟨_, rfl⟩
  have Tb' : Hid (Two w4 b_b 25 (.bool s_b) (.slice a_b n_b c_b)) := Lib.hid (by rw [← hw, ← hb_b]; have h9 := (Two.new w3 25 (.bool s_b) (.slice a_b n_b c_b)); exact h9)
  replace Ha := Lib.hid (Ha.out.below (Nat.le_refl _) hB)
  replace Hb := Lib.hid (Hb.out.below (Nat.le_refl _) hB)
  replace Ta := Lib.hid (Ta.out.below hB Ta.out.lt)
  replace HB := Lib.hid (HB.out.trans (hB.mono HB.out.size))
  have Tb := Tb'
  clear hB Tb'
  have d0a_4 := Ta.out.cell0
  have d1a_4 := Ta.out.cell1
  have d0b_4 := Tb.out.cell0
  have d1b_4 := Tb.out.cell1
  go_wp2_with fail
  clear hw hb_b d0a_4 d1a_4 d0b_4 d1b_4
  obtain ⟨A, hA⟩ : ∃ A, numZ zs len 0 = A := ⟨_, rfl⟩
  obtain ⟨B, hBB⟩ : ∃ B, numZ zs len 6 = B := ⟨_, rfl⟩
  have HR := Lib.hid (quot_lims A B n (hA ▸ numZ_lt zs len 0) (hBB ▸ numZ_lt zs len 6) h1 h2)
  rw [hA] at Ha
  rw [hBB] at Hb
  clear hA hBB
  have hB : Below w4.heap.size w4 w4.drew := ⟨rfl, rfl, rfl, Nat.le_refl _, fun _ _ => rfl⟩
  replace Ha := Lib.hid (Ha.out.below (Nat.le_refl _) hB)
  replace Hb := Lib.hid (Hb.out.below (Nat.le_refl _) hB)
  replace Ta := Lib.hid (Ta.out.below hB Ta.out.lt)
  replace Tb := Lib.hid (Tb.out.below hB Tb.out.lt)
  replace HB := Lib.hid (HB.out.trans (hB.mono HB.out.size))
  clear hB
  go_region_held3 (fun w' => w'.cell? ⟨b_a, 0, none⟩ = some (.bool s_a) ∧ w'.cell? ⟨b_a, 1, none⟩ = some (.slice a_a n_a c_a) ∧ w'.cell? ⟨b_b, 0, none⟩ = some (.bool s_b) ∧ w'.cell? ⟨b_b, 1, none⟩ = some (.slice a_b n_b c_b))
    (first | (exact ⟨Ta.out.cell0, Ta.out.cell1, Tb.out.cell0, Tb.out.cell1⟩) | go_keep)
    (first
      | (go_at_call 28; (with_reducible refine (rmul_any _ _ _ _ w4.drew Ha.out Hb.out (Nat.le_trans (lim_len4 _ HR.out.a) (by omega)) (Nat.le_trans (lim_len4 _ HR.out.b) (by omega))).mono ?_); rintro e w5 ⟨⟨vm, rfl, hm⟩, hB⟩; replace Ha := Lib.hid (Ha.out.below (Nat.le_refl _) hB); replace Hb := Lib.hid (Hb.out.below (Nat.le_refl _) hB); replace Ta := Lib.hid (Ta.out.below hB Ta.out.lt); replace Tb := Lib.hid (Tb.out.below hB Tb.out.lt); replace HB := Lib.hid (HB.out.trans (hB.mono HB.out.size)); have Hm := Lib.hid hm; obtain ⟨s_m, a_m, n_m, c_m, rfl⟩ := hm.form2; clear hB hm)
      | (go_at_call 23; (with_reducible refine (of_any n w5 h1 h2).mono ?_); rintro e w6 ⟨⟨vo, rfl, ho⟩, hB⟩; replace Ha := Lib.hid (Ha.out.below (Nat.le_refl _) hB); replace Hb := Lib.hid (Hb.out.below (Nat.le_refl _) hB); replace Hm := Lib.hid (Hm.out.below (Nat.le_refl _) hB); replace Ta := Lib.hid (Ta.out.below hB Ta.out.lt); replace Tb := Lib.hid (Tb.out.below hB Tb.out.lt); replace HB := Lib.hid (HB.out.trans (hB.mono HB.out.size)); have Ho := Lib.hid ho; obtain ⟨s_o, a_o, n_o, c_o, rfl⟩ := ho.form2; clear hB ho)
      | (go_at_call 29; (with_reducible refine (radd_any _ _ _ _ w6 Hm.out Ho.out (Nat.le_trans (lim_len4 _ HR.out.ab) (by omega)) (Nat.le_trans (lim_len4 _ HR.out.n) (by omega))).mono ?_); rintro e w7 ⟨⟨vd, rfl, hd⟩, hB⟩; replace Ha := Lib.hid (Ha.out.below (Nat.le_refl _) hB); replace Hb := Lib.hid (Hb.out.below (Nat.le_refl _) hB); replace Hm := Lib.hid (Hm.out.below (Nat.le_refl _) hB); replace Ho := Lib.hid (Ho.out.below (Nat.le_refl _) hB); replace Ta := Lib.hid (Ta.out.below hB Ta.out.lt); replace Tb := Lib.hid (Tb.out.below hB Tb.out.lt); replace HB := Lib.hid (HB.out.trans (hB.mono HB.out.size)); have Hd := Lib.hid hd; obtain ⟨s_d, a_d, n_d, c_d, rfl⟩ := hd.form2; clear hB hd)
      | (go_at_call 28; (with_reducible refine (rmul_any _ _ _ _ w7 Hb.out Hb.out (Nat.le_trans (lim_len4 _ HR.out.b) (by omega)) (Nat.le_trans (lim_len4 _ HR.out.b) (by omega))).mono ?_); rintro e w8 ⟨⟨vf, rfl, hf⟩, hB⟩; replace Ha := Lib.hid (Ha.out.below (Nat.le_refl _) hB); replace Hb := Lib.hid (Hb.out.below (Nat.le_refl _) hB); replace Hm := Lib.hid (Hm.out.below (Nat.le_refl _) hB); replace Ho := Lib.hid (Ho.out.below (Nat.le_refl _) hB); replace Hd := Lib.hid (Hd.out.below (Nat.le_refl _) hB); replace Ta := Lib.hid (Ta.out.below hB Ta.out.lt); replace Tb := Lib.hid (Tb.out.below hB Tb.out.lt); replace HB := Lib.hid (HB.out.trans (hB.mono HB.out.size)); have Hf := Lib.hid hf; obtain ⟨s_f, a_f, n_f, c_f, rfl⟩ := hf.form2; clear hB hf)
      | (go_at_call 28; (with_reducible refine (rmul_any _ _ _ _ w8 Hf.out Ha.out (Nat.le_trans (lim_len4 _ HR.out.bb) (by omega)) (Nat.le_trans (lim_len4 _ HR.out.a) (by omega))).mono ?_); rintro e w9 ⟨⟨vg, rfl, hg1⟩, hB⟩; replace Ha := Lib.hid (Ha.out.below (Nat.le_refl _) hB); replace Hb := Lib.hid (Hb.out.below (Nat.le_refl _) hB); replace Hm := Lib.hid (Hm.out.below (Nat.le_refl _) hB); replace Ho := Lib.hid (Ho.out.below (Nat.le_refl _) hB); replace Hd := Lib.hid (Hd.out.below (Nat.le_refl _) hB); replace Hf := Lib.hid (Hf.out.below (Nat.le_refl _) hB); replace Ta := Lib.hid (Ta.out.below hB Ta.out.lt); replace Tb := Lib.hid (Tb.out.below hB Tb.out.lt); replace HB := Lib.hid (HB.out.trans (hB.mono HB.out.size)); have Hg := Lib.hid hg1; obtain ⟨s_g, a_g, n_g, c_g, rfl⟩ := hg1.form2; clear hB hg1))
  clear Hm Ho Hf
  have hR := NRow.three 25 Ha.out Hd.out Hg.out
  obtain ⟨w10, hw⟩ : ∃ w', w9.alloc (.cells #[.bool s_a, .slice a_a n_a c_a, .bool s_d, .slice a_d n_d c_d, .bool s_g, .slice a_g n_g c_g] 25) = w' := ⟨_, rfl⟩
  have hB : Below w9.heap.size w9 w10 := by rw [← hw]; exact (Below.refl _ _).alloc (Nat.le_refl _) _
  obtain ⟨g_N, hg_N⟩ : ∃ b, w9.heap.size = b := ⟨_, rfl⟩
  rw [hw, hg_N] at hR
  replace Ha := Lib.hid (Ha.out.below (Nat.le_refl _) hB)
  replace Hb := Lib.hid (Hb.out.below (Nat.le_refl _) hB)
  replace Hd := Lib.hid (Hd.out.below (Nat.le_refl _) hB)
  replace Hg := Lib.hid (Hg.out.below (Nat.le_refl _) hB)
  replace Ta := Lib.hid (Ta.out.below hB Ta.out.lt)
  replace Tb := Lib.hid (Tb.out.below hB Tb.out.lt)
  replace HB := Lib.hid (HB.out.trans (hB.mono HB.out.size))
  have HN := Lib.hid hR
  clear hR hB
  have d0b_10 := Tb.out.cell0
  have d1b_10 := Tb.out.cell1
  go_wp2_with fail
  try rw [hg_N]
  try rw [hw]
  clear hw hg_N d0b_10 d1b_10
  refine (wider_any _ _ w10 Hb.out HR.out.b).mono ?_
  rintro e w11 ⟨⟨vy, rfl, hy⟩, hB⟩
  replace Ha := Lib.hid (Ha.out.below (Nat.le_refl _) hB)
  replace Hb := Lib.hid (Hb.out.below (Nat.le_refl _) hB)
  replace Hd := Lib.hid (Hd.out.below (Nat.le_refl _) hB)
  replace Hg := Lib.hid (Hg.out.below (Nat.le_refl _) hB)
  replace HN := Lib.hid (HN.out.below hB)
  replace Ta := Lib.hid (Ta.out.below hB Ta.out.lt)
  replace Tb := Lib.hid (Tb.out.below hB Tb.out.lt)
  replace HB := Lib.hid (HB.out.trans (hB.mono HB.out.size))
  have Hy := Lib.hid hy
  obtain ⟨s_y, a_y, n_y, c_y, rfl⟩ := hy.form2
  clear hB hy
  obtain ⟨w12, hw⟩ : ∃ w', (w11.alloc (.cells #[.bool s_y, .slice a_y n_y c_y] 33)) = w' := ⟨_, rfl⟩
  have hB : Below w11.heap.size w11 w12 := by rw [← hw]; exact (Below.refl _ _).alloc (Nat.le_refl _) _
  obtain ⟨b_y, hb_y⟩ : ∃ b, w11.heap.size = b := ⟨_, rfl⟩
  have Ty' : Hid (Two w12 b_y 33 (.bool s_y) (.slice a_y n_y c_y)) := Lib.hid (by rw [← hw, ← hb_y]; have h9 := (Two.new w11 33 (.bool s_y) (.slice a_y n_y c_y)); exact h9)
  replace Ha := Lib.hid (Ha.out.below (Nat.le_refl _) hB)
  replace Hb := Lib.hid (Hb.out.below (Nat.le_refl _) hB)
  replace Hd := Lib.hid (Hd.out.below (Nat.le_refl _) hB)
  replace Hg := Lib.hid (Hg.out.below (Nat.le_refl _) hB)
  replace HN := Lib.hid (HN.out.below hB)
  replace Hy := Lib.hid (Hy.out.below hB)
  replace Ta := Lib.hid (Ta.out.below hB Ta.out.lt)
  replace Tb := Lib.hid (Tb.out.below hB Tb.out.lt)
  replace HB := Lib.hid (HB.out.trans (hB.mono HB.out.size))
  have Ty := Ty'
  clear hB Ty'
  go_wp2_with fail
  clear hw hb_y
  clear Hd Hg Ha Ta
  have HLz : Hid (∀ i (h : i < [A, A * B + n, B * B * A].length), ([A, A * B + n, B * B * A][i]).natAbs < LIM) := Lib.hid (fun i hi => by match i, hi with | 0, _ => exact HR.out.a | 1, _ => exact HR.out.d | 2, _ => exact HR.out.g)
  obtain ⟨Z, hZ⟩ : ∃ Z, [A, A * B + n, B * B * A] = Z := ⟨_, rfl⟩
  have hZl : Z.length = 3 := by rw [← hZ]; rfl
  rw [hZ] at HN HLz
  clear hZ
  go_loopw [10] (fun i wr => ∃ (j : Nat), j ≤ 3 ∧ i = .int .i64 j ∧ Hid (Below w12.heap.size w12 wr)) (fun i _ => 3 - (intOf i).toNat)
  case atStart => exact ⟨0, by omega, rfl, Lib.hid (Below.refl _ _)⟩
  case round =>
    obtain ⟨j, hj, rfl, hBl⟩ := hrel
    obtain ⟨w13, rfl⟩ : ∃ w' : World, w' = wr := ⟨_, rfl⟩
    have HBl := hBl
    have hB := hBl.out
    clear hBl
    replace Hb := Lib.hid (Hb.out.below (Nat.le_refl _) hB)
    replace HN := Lib.hid (HN.out.below hB)
    replace Hy := Lib.hid (Hy.out.below hB)
    replace Tb := Lib.hid (Tb.out.below hB Tb.out.lt)
    replace Ty := Lib.hid (Ty.out.below hB Ty.out.lt)
    replace HB := Lib.hid (HB.out.trans (hB.mono HB.out.size))
    clear hB
    by_cases hlt : j < 3
    · skip
      obtain ⟨s_r, a_r, n_r, c_r, hr⟩ := HN.out.at_ j (by omega)
      have hzl := HLz.out j (by omega)
      obtain ⟨zj, hzj⟩ : ∃ zj, Z[j] = zj := ⟨_, rfl⟩
      rw [hzj] at hr hzl
      have Hzl := Lib.hid hzl
      clear hzl hzj
      have Hr := Lib.hid hr
      clear hr
      have d0r_13 := Hr.out.c0
      have d1r_13 := Hr.out.c1
      go_wp2_with fail
      clear d0r_13 d1r_13
      refine (wider_any _ _ w13 Hr.out.r Hzl.out).mono ?_
      rintro e w14 ⟨⟨vx, rfl, hx⟩, hB⟩
      replace Hb := Lib.hid (Hb.out.below (Nat.le_refl _) hB)
      replace HN := Lib.hid (HN.out.below hB)
      replace Hy := Lib.hid (Hy.out.below hB)
      replace Hr := Lib.hid (Hr.out.below hB)
      replace Tb := Lib.hid (Tb.out.below hB Tb.out.lt)
      replace Ty := Lib.hid (Ty.out.below hB Ty.out.lt)
      replace HB := Lib.hid (HB.out.trans (hB.mono HB.out.size))
      replace HBl := Lib.hid (HBl.out.trans (hB.mono HBl.out.size))
      have Hx := Lib.hid hx
      obtain ⟨s_x, a_x, n_x, c_x, rfl⟩ := hx.form2
      clear hB hx
      obtain ⟨w15, hw⟩ : ∃ w', (w14.alloc (.cells #[.bool s_x, .slice a_x n_x c_x] 33)) = w' := ⟨_, rfl⟩
      have hB : Below w14.heap.size w14 w15 := by rw [← hw]; exact (Below.refl _ _).alloc (Nat.le_refl _) _
      obtain ⟨b_x, hb_x⟩ : ∃ b, w14.heap.size = b := ⟨_, rfl⟩
      have Tx' : Hid (Two w15 b_x 33 (.bool s_x) (.slice a_x n_x c_x)) := Lib.hid (by rw [← hw, ← hb_x]; have h9 := (Two.new w14 33 (.bool s_x) (.slice a_x n_x c_x)); exact h9)
      replace Hb := Lib.hid (Hb.out.below (Nat.le_refl _) hB)
      replace HN := Lib.hid (HN.out.below hB)
      replace Hy := Lib.hid (Hy.out.below hB)
      replace Hr := Lib.hid (Hr.out.below hB)
      replace Hx := Lib.hid (Hx.out.below hB)
      replace Tb := Lib.hid (Tb.out.below hB Tb.out.lt)
      replace Ty := Lib.hid (Ty.out.below hB Ty.out.lt)
      replace HB := Lib.hid (HB.out.trans (hB.mono HB.out.size))
      replace HBl := Lib.hid (HBl.out.trans (hB.mono HBl.out.size))
      have Tx := Tx'
      clear hB Tx'
      have d0x_15 := Tx.out.cell0
      have d1x_15 := Tx.out.cell1
      have d0y_15 := Ty.out.cell0
      have d1y_15 := Ty.out.cell1
      go_wp2_with fail
      clear hw hb_x d0x_15 d1x_15 d0y_15 d1y_15
      have hj0 : (0 : Int) ≤ (j : Int) := by omega
      have hj1 : (j : Int) < 3 := by omega
      have hnb := Hb.out.len0
      have Hnb := Lib.hid hnb
      clear hnb
      by_cases hy0 : B = 0
      · skip
        have hn0 : ((n_b : Int) == 0) = true := by rw [Hnb.out.2 hy0]; rfl
        rw [hy0] at Hy
        refine (div_zero _ _ zj w15 Hx.out Hy.out).mono ?_
        rintro e w16 ⟨vq, vs, rfl, hq, hs1, hB⟩
        replace Hb := Lib.hid (Hb.out.below (Nat.le_refl _) hB)
        replace HN := Lib.hid (HN.out.below hB)
        replace Hy := Lib.hid (Hy.out.below hB)
        replace Hr := Lib.hid (Hr.out.below hB)
        replace Hx := Lib.hid (Hx.out.below hB)
        replace Tb := Lib.hid (Tb.out.below hB Tb.out.lt)
        replace Ty := Lib.hid (Ty.out.below hB Ty.out.lt)
        replace Tx := Lib.hid (Tx.out.below hB Tx.out.lt)
        replace HB := Lib.hid (HB.out.trans (hB.mono HB.out.size))
        replace HBl := Lib.hid (HBl.out.trans (hB.mono HBl.out.size))
        have Hq := Lib.hid hq
        obtain ⟨s_q, a_q, n_q, c_q, rfl⟩ := hq.form2
        have Hs := Lib.hid hs1
        obtain ⟨s_s, a_s, n_s, c_s, rfl⟩ := hs1.form2
        clear hB hq hs1
        obtain ⟨w17, hw⟩ : ∃ w', ((w16.alloc (.cells #[.bool s_q, .slice a_q n_q c_q] 33)).alloc (.cells #[.bool s_s, .slice a_s n_s c_s] 33)) = w' := ⟨_, rfl⟩
        have hB : Below w16.heap.size w16 w17 := by rw [← hw]; exact ((Below.refl _ _).alloc (Nat.le_refl _) _).alloc (by simp) _
        obtain ⟨b_q, hb_q⟩ : ∃ b, w16.heap.size = b := ⟨_, rfl⟩
        have Tq' : Hid (Two w17 b_q 33 (.bool s_q) (.slice a_q n_q c_q)) := Lib.hid (by rw [← hw, ← hb_q]; have h9 := ((Two.new w16 33 (.bool s_q) (.slice a_q n_q c_q)).alloc (.cells #[.bool s_s, .slice a_s n_s c_s] 33)); exact h9)
        obtain ⟨b_s, hb_s⟩ : ∃ b, w16.heap.size + 1 = b := ⟨_, rfl⟩
        have Ts' : Hid (Two w17 b_s 33 (.bool s_s) (.slice a_s n_s c_s)) := Lib.hid (by rw [← hw, ← hb_s]; have h9 := (Two.new (w16.alloc (.cells #[.bool s_q, .slice a_q n_q c_q] 33)) 33 (.bool s_s) (.slice a_s n_s c_s)); rw [World.size_alloc] at h9; exact h9)
        replace Hb := Lib.hid (Hb.out.below (Nat.le_refl _) hB)
        replace HN := Lib.hid (HN.out.below hB)
        replace Hy := Lib.hid (Hy.out.below hB)
        replace Hr := Lib.hid (Hr.out.below hB)
        replace Hx := Lib.hid (Hx.out.below hB)
        replace Hq := Lib.hid (Hq.out.below hB)
        replace Hs := Lib.hid (Hs.out.below hB)
        replace Tb := Lib.hid (Tb.out.below hB Tb.out.lt)
        replace Ty := Lib.hid (Ty.out.below hB Ty.out.lt)
        replace Tx := Lib.hid (Tx.out.below hB Tx.out.lt)
        replace HB := Lib.hid (HB.out.trans (hB.mono HB.out.size))
        replace HBl := Lib.hid (HBl.out.trans (hB.mono HBl.out.size))
        have Tq := Tq'
        have Ts := Ts'
        clear hB Tq' Ts'
        have d0b_17 := Tb.out.cell0
        have d1b_17 := Tb.out.cell1
        have d0q_17 := Tq.out.cell0
        have d1q_17 := Tq.out.cell1
        go_wp2_with fail
        try rw [show b_q + 1 = b_s by rw [← hb_q]; exact hb_s]
        clear hw hb_q hb_s d0b_17 d1b_17 d0q_17 d1q_17
        refine (equal_any _ _ 0 w17 Hq.out (rint_zero _) lim_zero (HP.out.below HB.out hg)).mono ?_
        rintro e w18 ⟨rfl, hB⟩
        replace Hb := Lib.hid (Hb.out.below (Nat.le_refl _) hB)
        replace HN := Lib.hid (HN.out.below hB)
        replace Hy := Lib.hid (Hy.out.below hB)
        replace Hr := Lib.hid (Hr.out.below hB)
        replace Hx := Lib.hid (Hx.out.below hB)
        replace Hq := Lib.hid (Hq.out.below hB)
        replace Hs := Lib.hid (Hs.out.below hB)
        replace Tb := Lib.hid (Tb.out.below hB Tb.out.lt)
        replace Ty := Lib.hid (Ty.out.below hB Ty.out.lt)
        replace Tx := Lib.hid (Tx.out.below hB Tx.out.lt)
        replace Tq := Lib.hid (Tq.out.below hB Tq.out.lt)
        replace Ts := Lib.hid (Ts.out.below hB Ts.out.lt)
        replace HB := Lib.hid (HB.out.trans (hB.mono HB.out.size))
        replace HBl := Lib.hid (HBl.out.trans (hB.mono HBl.out.size))
        clear hB 
        have d0s_18 := Ts.out.cell0
        have d1s_18 := Ts.out.cell1
        go_wp2_with fail
        clear d0s_18 d1s_18
        refine (equal_any _ _ 0 w18 Hs.out (rint_zero _) lim_zero (HP.out.below HB.out hg)).mono ?_
        rintro e w19 ⟨rfl, hB⟩
        replace Hb := Lib.hid (Hb.out.below (Nat.le_refl _) hB)
        replace HN := Lib.hid (HN.out.below hB)
        replace Hy := Lib.hid (Hy.out.below hB)
        replace Hr := Lib.hid (Hr.out.below hB)
        replace Hx := Lib.hid (Hx.out.below hB)
        replace Hq := Lib.hid (Hq.out.below hB)
        replace Hs := Lib.hid (Hs.out.below hB)
        replace Tb := Lib.hid (Tb.out.below hB Tb.out.lt)
        replace Ty := Lib.hid (Ty.out.below hB Ty.out.lt)
        replace Tx := Lib.hid (Tx.out.below hB Tx.out.lt)
        replace Tq := Lib.hid (Tq.out.below hB Tq.out.lt)
        replace Ts := Lib.hid (Ts.out.below hB Ts.out.lt)
        replace HB := Lib.hid (HB.out.trans (hB.mono HB.out.size))
        replace HBl := Lib.hid (HBl.out.trans (hB.mono HBl.out.size))
        clear hB 
        go_wp2_with fail
        go_roundw
        case rel => exact ⟨j + 1, by omega, by go_num, HBl⟩
        case measure => simp [intOf]; omega
      · skip
        have hn0 : ((n_b : Int) == 0) = false := by have h9 : ¬ n_b = 0 := fun h => hy0 (Hnb.out.1 h); simp; omega
        have hdl := div_law zj B hy0
        have HQ := Lib.hid (quo_le zj B hdl.1 hdl.2 hy0 Hzl.out HR.out.b)
        clear hdl
        refine (wdiv_any _ _ zj B w15 Hx.out Hy.out hy0 Hzl.out HR.out.b).mono ?_
        rintro e w16 ⟨hB, vq, vs, rfl, hq, hs1⟩
        replace Hb := Lib.hid (Hb.out.below (Nat.le_refl _) hB)
        replace HN := Lib.hid (HN.out.below hB)
        replace Hy := Lib.hid (Hy.out.below hB)
        replace Hr := Lib.hid (Hr.out.below hB)
        replace Hx := Lib.hid (Hx.out.below hB)
        replace Tb := Lib.hid (Tb.out.below hB Tb.out.lt)
        replace Ty := Lib.hid (Ty.out.below hB Ty.out.lt)
        replace Tx := Lib.hid (Tx.out.below hB Tx.out.lt)
        replace HB := Lib.hid (HB.out.trans (hB.mono HB.out.size))
        replace HBl := Lib.hid (HBl.out.trans (hB.mono HBl.out.size))
        have Hq := Lib.hid hq
        obtain ⟨s_q, a_q, n_q, c_q, rfl⟩ := hq.form2
        have Hs := Lib.hid hs1
        obtain ⟨s_s, a_s, n_s, c_s, rfl⟩ := hs1.form2
        clear hB hq hs1
        obtain ⟨w17, hw⟩ : ∃ w', ((w16.alloc (.cells #[.bool s_q, .slice a_q n_q c_q] 33)).alloc (.cells #[.bool s_s, .slice a_s n_s c_s] 33)) = w' := ⟨_, rfl⟩
        have hB : Below w16.heap.size w16 w17 := by rw [← hw]; exact ((Below.refl _ _).alloc (Nat.le_refl _) _).alloc (by simp) _
        obtain ⟨b_q, hb_q⟩ : ∃ b, w16.heap.size = b := ⟨_, rfl⟩
        have Tq' : Hid (Two w17 b_q 33 (.bool s_q) (.slice a_q n_q c_q)) := Lib.hid (by rw [← hw, ← hb_q]; have h9 := ((Two.new w16 33 (.bool s_q) (.slice a_q n_q c_q)).alloc (.cells #[.bool s_s, .slice a_s n_s c_s] 33)); exact h9)
        obtain ⟨b_s, hb_s⟩ : ∃ b, w16.heap.size + 1 = b := ⟨_, rfl⟩
        have Ts' : Hid (Two w17 b_s 33 (.bool s_s) (.slice a_s n_s c_s)) := Lib.hid (by rw [← hw, ← hb_s]; have h9 := (Two.new (w16.alloc (.cells #[.bool s_q, .slice a_q n_q c_q] 33)) 33 (.bool s_s) (.slice a_s n_s c_s)); rw [World.size_alloc] at h9; exact h9)
        replace Hb := Lib.hid (Hb.out.below (Nat.le_refl _) hB)
        replace HN := Lib.hid (HN.out.below hB)
        replace Hy := Lib.hid (Hy.out.below hB)
        replace Hr := Lib.hid (Hr.out.below hB)
        replace Hx := Lib.hid (Hx.out.below hB)
        replace Hq := Lib.hid (Hq.out.below hB)
        replace Hs := Lib.hid (Hs.out.below hB)
        replace Tb := Lib.hid (Tb.out.below hB Tb.out.lt)
        replace Ty := Lib.hid (Ty.out.below hB Ty.out.lt)
        replace Tx := Lib.hid (Tx.out.below hB Tx.out.lt)
        replace HB := Lib.hid (HB.out.trans (hB.mono HB.out.size))
        replace HBl := Lib.hid (HBl.out.trans (hB.mono HBl.out.size))
        have Tq := Tq'
        have Ts := Ts'
        clear hB Tq' Ts'
        have d0b_17 := Tb.out.cell0
        have d1b_17 := Tb.out.cell1
        have d0r_17 := Hr.out.c0
        have d1r_17 := Hr.out.c1
        go_wp2_with fail
        try rw [show b_q + 1 = b_s by rw [← hb_q]; exact hb_s]
        clear hw hb_q hb_s d0b_17 d1b_17 d0r_17 d1r_17
        refine wp_join (fun t ds a w' => ∃ (v83 : Value) (v84 : Value) (v85 : Value) (v86 : Value) (v87 : Value) (v88 : Value) (v89 : Value) (v90 : Value) (v91 : Value) (s_k : Bool) (a_k : Option Addr) (n_k c_k : Nat) (s_t : Bool) (a_t : Option Addr) (n_t c_t : Nat) (b_k : Nat) (b_t : Nat), a = ⟨(((((((((((t.setIfInBounds 83 v83).setIfInBounds 84 v84).setIfInBounds 85 v85).setIfInBounds 86 v86).setIfInBounds 87 v87).setIfInBounds 88 v88).setIfInBounds 89 v89).setIfInBounds 90 v90).setIfInBounds 91 v91).setIfInBounds 16 (.pointer (some ⟨b_k, 0, none⟩))).setIfInBounds 17 (.pointer (some ⟨b_t, 0, none⟩))), ds⟩ ∧ Hid (Below w17.heap.size w17 w') ∧ Hid (RInt w' (.agg #[.bool s_k, .slice a_k n_k c_k]) (qOf zj B)) ∧ Hid (RInt w' (.agg #[.bool s_t, .slice a_t n_t c_t]) (((rOf zj B : Nat) : Int))) ∧ Hid (Two w' b_k 25 (.bool s_k) (.slice a_k n_k c_k)) ∧ Hid (Two w' b_t 25 (.bool s_t) (.slice a_t n_t c_t))) ?_ ?_
        · skip
          obtain ⟨w18, hwd⟩ : ∃ w', w17.drew = w' := ⟨_, rfl⟩
          have hB : Below w17.heap.size w17 w18 := by rw [← hwd]; exact (Below.refl _ _).drew
          have HBr := Lib.hid hB
          have Hro := Hr
          have Tbo := Tb
          replace Hb := Lib.hid (Hb.out.below (Nat.le_refl _) hB)
          replace HN := Lib.hid (HN.out.below hB)
          replace Hy := Lib.hid (Hy.out.below hB)
          replace Hr := Lib.hid (Hr.out.below hB)
          replace Hx := Lib.hid (Hx.out.below hB)
          replace Hq := Lib.hid (Hq.out.below hB)
          replace Hs := Lib.hid (Hs.out.below hB)
          replace Tb := Lib.hid (Tb.out.below hB Tb.out.lt)
          replace Ty := Lib.hid (Ty.out.below hB Ty.out.lt)
          replace Tx := Lib.hid (Tx.out.below hB Tx.out.lt)
          replace Tq := Lib.hid (Tq.out.below hB Tq.out.lt)
          replace Ts := Lib.hid (Ts.out.below hB Ts.out.lt)
          replace HB := Lib.hid (HB.out.trans (hB.mono HB.out.size))
          replace HBl := Lib.hid (HBl.out.trans (hB.mono HBl.out.size))
          clear hB
          refine startK 12 (fun w' => Below w17.heap.size w17 w') (by kernel_rfl) (by rw [hwd]; exact HBr.out) (fun hHeld => ?_)
          rw [hwd] at hHeld ⊢
          clear hwd
          refine takeK 0 84 (v := ?_) rfl rfl (by kernel_rfl) (by kernel_rfl) (by kernel_rfl) (by kernel_rfl) (fun _ _ _ h => h) (by rfl) ?_ (by assumption) ?_
          rotate_left
          · (intro w hSw; go_simp; first | done | with_reducible rfl)
          simp only [List.setIfInBounds_toArray, List.set_cons_zero, List.set_cons_succ]
          refine takeK 1 85 (v := ?_) rfl rfl (by kernel_rfl) (by kernel_rfl) (by kernel_rfl) (by kernel_rfl) (fun _ _ _ h => h) (by rfl) ?_ (by assumption) ?_
          rotate_left
          · (intro w hSw; go_simp; first | done | with_reducible rfl)
          simp only [List.setIfInBounds_toArray, List.set_cons_zero, List.set_cons_succ]
          refine takeK 2 86 (v := ?_) rfl rfl (by kernel_rfl) (by kernel_rfl) (by kernel_rfl) (by kernel_rfl) (fun _ _ _ h => h) (by rfl) ?_ (by assumption) ?_
          rotate_left
          · (intro w hSw; go_simp; first | done | with_reducible rfl)
          simp only [List.setIfInBounds_toArray, List.set_cons_zero, List.set_cons_succ]
          refine takeK 3 87 (v := ?_) rfl rfl (by kernel_rfl) (by kernel_rfl) (by kernel_rfl) (by kernel_rfl) (fun _ _ _ h => h) (by rfl) ?_ (by assumption) ?_
          rotate_left
          · (intro w hSw; have x0r := (hSw.cell (p := ⟨g_N, j * 2, none⟩) Hro.out.lt).trans Hro.out.c0; have x1r := (hSw.cell (p := ⟨g_N, j * 2 + 1, none⟩) Hro.out.lt).trans Hro.out.c1; go_simp; first | done | with_reducible rfl)
          simp only [List.setIfInBounds_toArray, List.set_cons_zero, List.set_cons_succ]
          refine takeK 4 88 (v := ?_) rfl rfl (by kernel_rfl) (by kernel_rfl) (by kernel_rfl) (by kernel_rfl) (fun _ _ _ h => h) (by rfl) ?_ (by assumption) ?_
          rotate_left
          · (intro w hSw; have x0b := (hSw.cell (p := ⟨b_b, 0, none⟩) Tbo.out.lt).trans Tbo.out.cell0; have x1b := (hSw.cell (p := ⟨b_b, 1, none⟩) Tbo.out.lt).trans Tbo.out.cell1; go_simp; first | done | with_reducible rfl)
          simp only [List.setIfInBounds_toArray, List.set_cons_zero, List.set_cons_succ]
          refine forkK [5, 9, 10] (by kernel_rfl) (by simp) ⟨forkOne 5 rfl (fun K hK => ?_), forkOne 9 rfl (fun K hK => ?_), forkOne 10 rfl (fun K hK => ?_), trivial⟩
          · skip
            go_simp
            refine (rdiv_any _ _ zj B w18 Hr.out.r Hb.out hy0 (Nat.le_trans (lim_len4 _ Hzl.out) (by omega)) (Nat.le_trans (lim_len4 _ HR.out.b) (by omega))).mono ?_
            rintro e w19 ⟨hB, vk, vt, rfl, hk, ht⟩
            replace Hb := Lib.hid (Hb.out.below (Nat.le_refl _) hB)
            replace HN := Lib.hid (HN.out.below hB)
            replace Hy := Lib.hid (Hy.out.below hB)
            replace Hr := Lib.hid (Hr.out.below hB)
            replace Hx := Lib.hid (Hx.out.below hB)
            replace Hq := Lib.hid (Hq.out.below hB)
            replace Hs := Lib.hid (Hs.out.below hB)
            replace Tb := Lib.hid (Tb.out.below hB Tb.out.lt)
            replace Ty := Lib.hid (Ty.out.below hB Ty.out.lt)
            replace Tx := Lib.hid (Tx.out.below hB Tx.out.lt)
            replace Tq := Lib.hid (Tq.out.below hB Tq.out.lt)
            replace Ts := Lib.hid (Ts.out.below hB Ts.out.lt)
            replace HB := Lib.hid (HB.out.trans (hB.mono HB.out.size))
            replace HBl := Lib.hid (HBl.out.trans (hB.mono HBl.out.size))
            replace HBr := Lib.hid (HBr.out.trans (hB.mono HBr.out.size))
            have Hk := Lib.hid hk
            obtain ⟨s_k, a_k, n_k, c_k, rfl⟩ := hk.form2
            have Ht := Lib.hid ht
            obtain ⟨s_t, a_t, n_t, c_t, rfl⟩ := ht.form2
            clear hB hk ht
            refine hK.out _ _ HBr.out (fun hHeld => ?_)
            clear hK K
            try simp only [Act.put, List.setIfInBounds_toArray, List.set_cons_zero, List.set_cons_succ]
            refine takeK 6 83 (v := ?_) rfl rfl (by kernel_rfl) (by kernel_rfl) (by kernel_rfl) (by kernel_rfl) (fun _ _ _ h => h) (by rfl) ?_ (by assumption) ?_
            rotate_left
            · (intro w hSw; go_simp; first | done | with_reducible rfl)
            simp only [List.setIfInBounds_toArray, List.set_cons_zero, List.set_cons_succ]
            refine takeK 7 90 (v := ?_) rfl rfl (by kernel_rfl) (by kernel_rfl) (by kernel_rfl) (by kernel_rfl) (fun _ _ _ h => h) (by rfl) ?_ (by assumption) ?_
            rotate_left
            · (intro w hSw; go_simp; first | done | with_reducible rfl)
            simp only [List.setIfInBounds_toArray, List.set_cons_zero, List.set_cons_succ]
            refine takeK 8 91 (v := ?_) rfl rfl (by kernel_rfl) (by kernel_rfl) (by kernel_rfl) (by kernel_rfl) (fun _ _ _ h => h) (by rfl) ?_ (by assumption) ?_
            rotate_left
            · (intro w hSw; go_simp; first | done | with_reducible rfl)
            simp only [List.setIfInBounds_toArray, List.set_cons_zero, List.set_cons_succ]
            refine forkK [9, 10] (by kernel_rfl) (by simp) ⟨forkOne 9 rfl (fun K hK => ?_), forkOne 10 rfl (fun K hK => ?_), trivial⟩
            · skip
              go_simp
              obtain ⟨w20, hw⟩ : ∃ w', w19.alloc (.cells #[.bool false, .slice none 0 0] 25) = w' := ⟨_, rfl⟩
              have hB : Below w19.heap.size w19 w20 := by rw [← hw]; exact (Below.refl _ _).alloc (Nat.le_refl _) _
              obtain ⟨b_k, hb⟩ : ∃ b, w19.heap.size = b := ⟨_, rfl⟩
              have Tk' : Hid (Two w20 b_k 25 (.bool false) (.slice none 0 0)) := Lib.hid (by rw [← hw, ← hb]; exact Two.new w19 25 (.bool false) (.slice none 0 0))
              have hl_k : w17.heap.size ≤ b_k := by rw [← hb]; exact HBr.out.size
              replace Hb := Lib.hid (Hb.out.below (Nat.le_refl _) hB)
              replace HN := Lib.hid (HN.out.below hB)
              replace Hy := Lib.hid (Hy.out.below hB)
              replace Hr := Lib.hid (Hr.out.below hB)
              replace Hx := Lib.hid (Hx.out.below hB)
              replace Hq := Lib.hid (Hq.out.below hB)
              replace Hs := Lib.hid (Hs.out.below hB)
              replace Hk := Lib.hid (Hk.out.below (Nat.le_refl _) hB)
              replace Ht := Lib.hid (Ht.out.below (Nat.le_refl _) hB)
              replace Tb := Lib.hid (Tb.out.below hB Tb.out.lt)
              replace Ty := Lib.hid (Ty.out.below hB Ty.out.lt)
              replace Tx := Lib.hid (Tx.out.below hB Tx.out.lt)
              replace Tq := Lib.hid (Tq.out.below hB Tq.out.lt)
              replace Ts := Lib.hid (Ts.out.below hB Ts.out.lt)
              replace HB := Lib.hid (HB.out.trans (hB.mono HB.out.size))
              replace HBl := Lib.hid (HBl.out.trans (hB.mono HBl.out.size))
              replace HBr := Lib.hid (HBr.out.trans (hB.mono HBr.out.size))
              have Tk := Tk'
              clear hB Tk'
              rw [hw]
              try rw [hb]
              clear hw hb
              refine hK.out _ _ HBr.out (fun hHeld => ?_)
              clear hK K
              try simp only [Act.put, List.setIfInBounds_toArray, List.set_cons_zero, List.set_cons_succ]
              refine stepK 10 (by kernel_rfl) rfl (fun K hK => ?_)
              go_simp
              obtain ⟨w21, hw⟩ : ∃ w', w20.alloc (.cells #[.bool false, .slice none 0 0] 25) = w' := ⟨_, rfl⟩
              have hB : Below w20.heap.size w20 w21 := by rw [← hw]; exact (Below.refl _ _).alloc (Nat.le_refl _) _
              obtain ⟨b_t, hb⟩ : ∃ b, w20.heap.size = b := ⟨_, rfl⟩
              have Tt' : Hid (Two w21 b_t 25 (.bool false) (.slice none 0 0)) := Lib.hid (by rw [← hw, ← hb]; exact Two.new w20 25 (.bool false) (.slice none 0 0))
              have hl_t : w17.heap.size ≤ b_t := by rw [← hb]; exact HBr.out.size
              have hne_k_t : b_k < b_t := by rw [← hb]; exact Tk.out.lt
              replace Hb := Lib.hid (Hb.out.below (Nat.le_refl _) hB)
              replace HN := Lib.hid (HN.out.below hB)
              replace Hy := Lib.hid (Hy.out.below hB)
              replace Hr := Lib.hid (Hr.out.below hB)
              replace Hx := Lib.hid (Hx.out.below hB)
              replace Hq := Lib.hid (Hq.out.below hB)
              replace Hs := Lib.hid (Hs.out.below hB)
              replace Hk := Lib.hid (Hk.out.below (Nat.le_refl _) hB)
              replace Ht := Lib.hid (Ht.out.below (Nat.le_refl _) hB)
              replace Tb := Lib.hid (Tb.out.below hB Tb.out.lt)
              replace Ty := Lib.hid (Ty.out.below hB Ty.out.lt)
              replace Tx := Lib.hid (Tx.out.below hB Tx.out.lt)
              replace Tq := Lib.hid (Tq.out.below hB Tq.out.lt)
              replace Ts := Lib.hid (Ts.out.below hB Ts.out.lt)
              replace Tk := Lib.hid (Tk.out.below hB Tk.out.lt)
              replace HB := Lib.hid (HB.out.trans (hB.mono HB.out.size))
              replace HBl := Lib.hid (HBl.out.trans (hB.mono HBl.out.size))
              replace HBr := Lib.hid (HBr.out.trans (hB.mono HBr.out.size))
              have Tt := Tt'
              clear hB Tt'
              rw [hw]
              try rw [hb]
              clear hw hb
              refine hK.out _ _ HBr.out (fun hHeld => ?_)
              clear hK K
              try simp only [Act.put, List.setIfInBounds_toArray, List.set_cons_zero, List.set_cons_succ]
              have f0 := Tk.out.cell0
              have g0 := Tk.out.frozen 0
              have f1 := Tk.out.cell1
              have g1 := Tk.out.frozen 1
              obtain ⟨w22, hw⟩ : ∃ w', (w21.setCell ⟨b_k, 0, none⟩ (.bool s_k)).setCell ⟨b_k, 1, none⟩ (.slice a_k n_k c_k) = w' := ⟨_, rfl⟩
              have Tz := Tk
              replace Tt : Hid (Two w22 b_t 25 (.bool false) (.slice none 0 0)) := Lib.hid (by rw [← hw]; exact Tt.out.far2 (by omega) _ _)
              replace Hk : Hid (RInt w22 (.agg #[.bool s_k, .slice a_k n_k c_k]) (qOf zj B)) := Lib.hid (by rw [← hw]; exact Hk.out.set_two Tz.out _ _)
              replace Ht : Hid (RInt w22 (.agg #[.bool s_t, .slice a_t n_t c_t]) (((rOf zj B : Nat) : Int))) := Lib.hid (by rw [← hw]; exact Ht.out.set_two Tz.out _ _)
              replace Tk : Hid (Two w22 b_k 25 (.bool s_k) (.slice a_k n_k c_k)) := Lib.hid (by rw [← hw]; exact Tz.out.put2 _ _)
              replace HBr : Hid (Below w17.heap.size w17 w22) := Lib.hid (by rw [← hw]; exact (HBr.out.setCell (p := ⟨b_k, 0, none⟩) hl_k _).setCell (p := ⟨b_k, 1, none⟩) hl_k _)
              refine stepK 11 (by kernel_rfl) rfl (fun K hK => ?_)
              go_simp
              try rw [hw]
              clear f0 f1 g0 g1 hw
              refine hK.out _ _ HBr.out (fun hHeld => ?_)
              clear hK K
              try simp only [Act.put, List.setIfInBounds_toArray, List.set_cons_zero, List.set_cons_succ]
              have f0 := Tt.out.cell0
              have g0 := Tt.out.frozen 0
              have f1 := Tt.out.cell1
              have g1 := Tt.out.frozen 1
              obtain ⟨w23, hw⟩ : ∃ w', (w22.setCell ⟨b_t, 0, none⟩ (.bool s_t)).setCell ⟨b_t, 1, none⟩ (.slice a_t n_t c_t) = w' := ⟨_, rfl⟩
              have Tz := Tt
              replace Tk : Hid (Two w23 b_k 25 (.bool s_k) (.slice a_k n_k c_k)) := Lib.hid (by rw [← hw]; exact Tk.out.far2 (by omega) _ _)
              replace Hk : Hid (RInt w23 (.agg #[.bool s_k, .slice a_k n_k c_k]) (qOf zj B)) := Lib.hid (by rw [← hw]; exact Hk.out.set_two Tz.out _ _)
              replace Ht : Hid (RInt w23 (.agg #[.bool s_t, .slice a_t n_t c_t]) (((rOf zj B : Nat) : Int))) := Lib.hid (by rw [← hw]; exact Ht.out.set_two Tz.out _ _)
              replace Tt : Hid (Two w23 b_t 25 (.bool s_t) (.slice a_t n_t c_t)) := Lib.hid (by rw [← hw]; exact Tz.out.put2 _ _)
              replace HBr : Hid (Below w17.heap.size w17 w23) := Lib.hid (by rw [← hw]; exact (HBr.out.setCell (p := ⟨b_t, 0, none⟩) hl_t _).setCell (p := ⟨b_t, 1, none⟩) hl_t _)
              refine lastK (by kernel_rfl) rfl (by kernel_rfl) (fun K hK => ?_)
              go_simp
              refine hK.out _ _ ?_
              clear hK K
              try simp only [Act.put, List.setIfInBounds_toArray, List.set_cons_zero, List.set_cons_succ]
              try rw [hw]
              refine joinQ_normal ⟨_, _, _, _, _, _, _, _, _, _, _, _, _, _, _, _, _, _, _, by first | rfl | (simp only [List.setIfInBounds_toArray, List.set_cons_zero, List.set_cons_succ]; rfl), HBr, Hk, Ht, Tk, Tt⟩
            · skip
              go_simp
              obtain ⟨w20, hw⟩ : ∃ w', w19.alloc (.cells #[.bool false, .slice none 0 0] 25) = w' := ⟨_, rfl⟩
              have hB : Below w19.heap.size w19 w20 := by rw [← hw]; exact (Below.refl _ _).alloc (Nat.le_refl _) _
              obtain ⟨b_t, hb⟩ : ∃ b, w19.heap.size = b := ⟨_, rfl⟩
              have Tt' : Hid (Two w20 b_t 25 (.bool false) (.slice none 0 0)) := Lib.hid (by rw [← hw, ← hb]; exact Two.new w19 25 (.bool false) (.slice none 0 0))
              have hl_t : w17.heap.size ≤ b_t := by rw [← hb]; exact HBr.out.size
              replace Hb := Lib.hid (Hb.out.below (Nat.le_refl _) hB)
              replace HN := Lib.hid (HN.out.below hB)
              replace Hy := Lib.hid (Hy.out.below hB)
              replace Hr := Lib.hid (Hr.out.below hB)
              replace Hx := Lib.hid (Hx.out.below hB)
              replace Hq := Lib.hid (Hq.out.below hB)
              replace Hs := Lib.hid (Hs.out.below hB)
              replace Hk := Lib.hid (Hk.out.below (Nat.le_refl _) hB)
              replace Ht := Lib.hid (Ht.out.below (Nat.le_refl _) hB)
              replace Tb := Lib.hid (Tb.out.below hB Tb.out.lt)
              replace Ty := Lib.hid (Ty.out.below hB Ty.out.lt)
              replace Tx := Lib.hid (Tx.out.below hB Tx.out.lt)
              replace Tq := Lib.hid (Tq.out.below hB Tq.out.lt)
              replace Ts := Lib.hid (Ts.out.below hB Ts.out.lt)
              replace HB := Lib.hid (HB.out.trans (hB.mono HB.out.size))
              replace HBl := Lib.hid (HBl.out.trans (hB.mono HBl.out.size))
              replace HBr := Lib.hid (HBr.out.trans (hB.mono HBr.out.size))
              have Tt := Tt'
              clear hB Tt'
              rw [hw]
              try rw [hb]
              clear hw hb
              refine hK.out _ _ HBr.out (fun hHeld => ?_)
              clear hK K
              try simp only [Act.put, List.setIfInBounds_toArray, List.set_cons_zero, List.set_cons_succ]
              refine stepK 9 (by kernel_rfl) rfl (fun K hK => ?_)
              go_simp
              obtain ⟨w21, hw⟩ : ∃ w', w20.alloc (.cells #[.bool false, .slice none 0 0] 25) = w' := ⟨_, rfl⟩
              have hB : Below w20.heap.size w20 w21 := by rw [← hw]; exact (Below.refl _ _).alloc (Nat.le_refl _) _
              obtain ⟨b_k, hb⟩ : ∃ b, w20.heap.size = b := ⟨_, rfl⟩
              have Tk' : Hid (Two w21 b_k 25 (.bool false) (.slice none 0 0)) := Lib.hid (by rw [← hw, ← hb]; exact Two.new w20 25 (.bool false) (.slice none 0 0))
              have hl_k : w17.heap.size ≤ b_k := by rw [← hb]; exact HBr.out.size
              have hne_t_k : b_t < b_k := by rw [← hb]; exact Tt.out.lt
              replace Hb := Lib.hid (Hb.out.below (Nat.le_refl _) hB)
              replace HN := Lib.hid (HN.out.below hB)
              replace Hy := Lib.hid (Hy.out.below hB)
              replace Hr := Lib.hid (Hr.out.below hB)
              replace Hx := Lib.hid (Hx.out.below hB)
              replace Hq := Lib.hid (Hq.out.below hB)
              replace Hs := Lib.hid (Hs.out.below hB)
              replace Hk := Lib.hid (Hk.out.below (Nat.le_refl _) hB)
              replace Ht := Lib.hid (Ht.out.below (Nat.le_refl _) hB)
              replace Tb := Lib.hid (Tb.out.below hB Tb.out.lt)
              replace Ty := Lib.hid (Ty.out.below hB Ty.out.lt)
              replace Tx := Lib.hid (Tx.out.below hB Tx.out.lt)
              replace Tq := Lib.hid (Tq.out.below hB Tq.out.lt)
              replace Ts := Lib.hid (Ts.out.below hB Ts.out.lt)
              replace Tt := Lib.hid (Tt.out.below hB Tt.out.lt)
              replace HB := Lib.hid (HB.out.trans (hB.mono HB.out.size))
              replace HBl := Lib.hid (HBl.out.trans (hB.mono HBl.out.size))
              replace HBr := Lib.hid (HBr.out.trans (hB.mono HBr.out.size))
              have Tk := Tk'
              clear hB Tk'
              rw [hw]
              try rw [hb]
              clear hw hb
              refine hK.out _ _ HBr.out (fun hHeld => ?_)
              clear hK K
              try simp only [Act.put, List.setIfInBounds_toArray, List.set_cons_zero, List.set_cons_succ]
              have f0 := Tk.out.cell0
              have g0 := Tk.out.frozen 0
              have f1 := Tk.out.cell1
              have g1 := Tk.out.frozen 1
              obtain ⟨w22, hw⟩ : ∃ w', (w21.setCell ⟨b_k, 0, none⟩ (.bool s_k)).setCell ⟨b_k, 1, none⟩ (.slice a_k n_k c_k) = w' := ⟨_, rfl⟩
              have Tz := Tk
              replace Tt : Hid (Two w22 b_t 25 (.bool false) (.slice none 0 0)) := Lib.hid (by rw [← hw]; exact Tt.out.far2 (by omega) _ _)
              replace Hk : Hid (RInt w22 (.agg #[.bool s_k, .slice a_k n_k c_k]) (qOf zj B)) := Lib.hid (by rw [← hw]; exact Hk.out.set_two Tz.out _ _)
              replace Ht : Hid (RInt w22 (.agg #[.bool s_t, .slice a_t n_t c_t]) (((rOf zj B : Nat) : Int))) := Lib.hid (by rw [← hw]; exact Ht.out.set_two Tz.out _ _)
              replace Tk : Hid (Two w22 b_k 25 (.bool s_k) (.slice a_k n_k c_k)) := Lib.hid (by rw [← hw]; exact Tz.out.put2 _ _)
              replace HBr : Hid (Below w17.heap.size w17 w22) := Lib.hid (by rw [← hw]; exact (HBr.out.setCell (p := ⟨b_k, 0, none⟩) hl_k _).setCell (p := ⟨b_k, 1, none⟩) hl_k _)
              refine stepK 11 (by kernel_rfl) rfl (fun K hK => ?_)
              go_simp
              try rw [hw]
              clear f0 f1 g0 g1 hw
              refine hK.out _ _ HBr.out (fun hHeld => ?_)
              clear hK K
              try simp only [Act.put, List.setIfInBounds_toArray, List.set_cons_zero, List.set_cons_succ]
              have f0 := Tt.out.cell0
              have g0 := Tt.out.frozen 0
              have f1 := Tt.out.cell1
              have g1 := Tt.out.frozen 1
              obtain ⟨w23, hw⟩ : ∃ w', (w22.setCell ⟨b_t, 0, none⟩ (.bool s_t)).setCell ⟨b_t, 1, none⟩ (.slice a_t n_t c_t) = w' := ⟨_, rfl⟩
              have Tz := Tt
              replace Tk : Hid (Two w23 b_k 25 (.bool s_k) (.slice a_k n_k c_k)) := Lib.hid (by rw [← hw]; exact Tk.out.far2 (by omega) _ _)
              replace Hk : Hid (RInt w23 (.agg #[.bool s_k, .slice a_k n_k c_k]) (qOf zj B)) := Lib.hid (by rw [← hw]; exact Hk.out.set_two Tz.out _ _)
              replace Ht : Hid (RInt w23 (.agg #[.bool s_t, .slice a_t n_t c_t]) (((rOf zj B : Nat) : Int))) := Lib.hid (by rw [← hw]; exact Ht.out.set_two Tz.out _ _)
              replace Tt : Hid (Two w23 b_t 25 (.bool s_t) (.slice a_t n_t c_t)) := Lib.hid (by rw [← hw]; exact Tz.out.put2 _ _)
              replace HBr : Hid (Below w17.heap.size w17 w23) := Lib.hid (by rw [← hw]; exact (HBr.out.setCell (p := ⟨b_t, 0, none⟩) hl_t _).setCell (p := ⟨b_t, 1, none⟩) hl_t _)
              refine lastK (by kernel_rfl) rfl (by kernel_rfl) (fun K hK => ?_)
              go_simp
              refine hK.out _ _ ?_
              clear hK K
              try simp only [Act.put, List.setIfInBounds_toArray, List.set_cons_zero, List.set_cons_succ]
              try rw [hw]
              refine joinQ_normal ⟨_, _, _, _, _, _, _, _, _, _, _, _, _, _, _, _, _, _, _, by first | rfl | (simp only [List.setIfInBounds_toArray, List.set_cons_zero, List.set_cons_succ]; rfl), HBr, Hk, Ht, Tk, Tt⟩
          · skip
            go_simp
            obtain ⟨w19, hw⟩ : ∃ w', w18.alloc (.cells #[.bool false, .slice none 0 0] 25) = w' := ⟨_, rfl⟩
            have hB : Below w18.heap.size w18 w19 := by rw [← hw]; exact (Below.refl _ _).alloc (Nat.le_refl _) _
            obtain ⟨b_k, hb⟩ : ∃ b, w18.heap.size = b := ⟨_, rfl⟩
            have Tk' : Hid (Two w19 b_k 25 (.bool false) (.slice none 0 0)) := Lib.hid (by rw [← hw, ← hb]; exact Two.new w18 25 (.bool false) (.slice none 0 0))
            have hl_k : w17.heap.size ≤ b_k := by rw [← hb]; exact HBr.out.size
            replace Hb := Lib.hid (Hb.out.below (Nat.le_refl _) hB)
            replace HN := Lib.hid (HN.out.below hB)
            replace Hy := Lib.hid (Hy.out.below hB)
            replace Hr := Lib.hid (Hr.out.below hB)
            replace Hx := Lib.hid (Hx.out.below hB)
            replace Hq := Lib.hid (Hq.out.below hB)
            replace Hs := Lib.hid (Hs.out.below hB)
            replace Tb := Lib.hid (Tb.out.below hB Tb.out.lt)
            replace Ty := Lib.hid (Ty.out.below hB Ty.out.lt)
            replace Tx := Lib.hid (Tx.out.below hB Tx.out.lt)
            replace Tq := Lib.hid (Tq.out.below hB Tq.out.lt)
            replace Ts := Lib.hid (Ts.out.below hB Ts.out.lt)
            replace HB := Lib.hid (HB.out.trans (hB.mono HB.out.size))
            replace HBl := Lib.hid (HBl.out.trans (hB.mono HBl.out.size))
            replace HBr := Lib.hid (HBr.out.trans (hB.mono HBr.out.size))
            have Tk := Tk'
            clear hB Tk'
            rw [hw]
            try rw [hb]
            clear hw hb
            refine hK.out _ _ HBr.out (fun hHeld => ?_)
            clear hK K
            try simp only [Act.put, List.setIfInBounds_toArray, List.set_cons_zero, List.set_cons_succ]
            refine forkK [5, 10] (by kernel_rfl) (by simp) ⟨forkOne 5 rfl (fun K hK => ?_), forkOne 10 rfl (fun K hK => ?_), trivial⟩
            · skip
              go_simp
              refine (rdiv_any _ _ zj B w19 Hr.out.r Hb.out hy0 (Nat.le_trans (lim_len4 _ Hzl.out) (by omega)) (Nat.le_trans (lim_len4 _ HR.out.b) (by omega))).mono ?_
              rintro e w20 ⟨hB, vk, vt, rfl, hk, ht⟩
              replace Hb := Lib.hid (Hb.out.below (Nat.le_refl _) hB)
              replace HN := Lib.hid (HN.out.below hB)
              replace Hy := Lib.hid (Hy.out.below hB)
              replace Hr := Lib.hid (Hr.out.below hB)
              replace Hx := Lib.hid (Hx.out.below hB)
              replace Hq := Lib.hid (Hq.out.below hB)
              replace Hs := Lib.hid (Hs.out.below hB)
              replace Tb := Lib.hid (Tb.out.below hB Tb.out.lt)
              replace Ty := Lib.hid (Ty.out.below hB Ty.out.lt)
              replace Tx := Lib.hid (Tx.out.below hB Tx.out.lt)
              replace Tq := Lib.hid (Tq.out.below hB Tq.out.lt)
              replace Ts := Lib.hid (Ts.out.below hB Ts.out.lt)
              replace Tk := Lib.hid (Tk.out.below hB Tk.out.lt)
              replace HB := Lib.hid (HB.out.trans (hB.mono HB.out.size))
              replace HBl := Lib.hid (HBl.out.trans (hB.mono HBl.out.size))
              replace HBr := Lib.hid (HBr.out.trans (hB.mono HBr.out.size))
              have Hk := Lib.hid hk
              obtain ⟨s_k, a_k, n_k, c_k, rfl⟩ := hk.form2
              have Ht := Lib.hid ht
              obtain ⟨s_t, a_t, n_t, c_t, rfl⟩ := ht.form2
              clear hB hk ht
              refine hK.out _ _ HBr.out (fun hHeld => ?_)
              clear hK K
              try simp only [Act.put, List.setIfInBounds_toArray, List.set_cons_zero, List.set_cons_succ]
              refine takeK 6 83 (v := ?_) rfl rfl (by kernel_rfl) (by kernel_rfl) (by kernel_rfl) (by kernel_rfl) (fun _ _ _ h => h) (by rfl) ?_ (by assumption) ?_
              rotate_left
              · (intro w hSw; go_simp; first | done | with_reducible rfl)
              simp only [List.setIfInBounds_toArray, List.set_cons_zero, List.set_cons_succ]
              refine takeK 7 90 (v := ?_) rfl rfl (by kernel_rfl) (by kernel_rfl) (by kernel_rfl) (by kernel_rfl) (fun _ _ _ h => h) (by rfl) ?_ (by assumption) ?_
              rotate_left
              · (intro w hSw; go_simp; first | done | with_reducible rfl)
              simp only [List.setIfInBounds_toArray, List.set_cons_zero, List.set_cons_succ]
              refine takeK 8 91 (v := ?_) rfl rfl (by kernel_rfl) (by kernel_rfl) (by kernel_rfl) (by kernel_rfl) (fun _ _ _ h => h) (by rfl) ?_ (by assumption) ?_
              rotate_left
              · (intro w hSw; go_simp; first | done | with_reducible rfl)
              simp only [List.setIfInBounds_toArray, List.set_cons_zero, List.set_cons_succ]
              refine stepK 10 (by kernel_rfl) rfl (fun K hK => ?_)
              go_simp
              obtain ⟨w21, hw⟩ : ∃ w', w20.alloc (.cells #[.bool false, .slice none 0 0] 25) = w' := ⟨_, rfl⟩
              have hB : Below w20.heap.size w20 w21 := by rw [← hw]; exact (Below.refl _ _).alloc (Nat.le_refl _) _
              obtain ⟨b_t, hb⟩ : ∃ b, w20.heap.size = b := ⟨_, rfl⟩
              have Tt' : Hid (Two w21 b_t 25 (.bool false) (.slice none 0 0)) := Lib.hid (by rw [← hw, ← hb]; exact Two.new w20 25 (.bool false) (.slice none 0 0))
              have hl_t : w17.heap.size ≤ b_t := by rw [← hb]; exact HBr.out.size
              have hne_k_t : b_k < b_t := by rw [← hb]; exact Tk.out.lt
              replace Hb := Lib.hid (Hb.out.below (Nat.le_refl _) hB)
              replace HN := Lib.hid (HN.out.below hB)
              replace Hy := Lib.hid (Hy.out.below hB)
              replace Hr := Lib.hid (Hr.out.below hB)
              replace Hx := Lib.hid (Hx.out.below hB)
              replace Hq := Lib.hid (Hq.out.below hB)
              replace Hs := Lib.hid (Hs.out.below hB)
              replace Hk := Lib.hid (Hk.out.below (Nat.le_refl _) hB)
              replace Ht := Lib.hid (Ht.out.below (Nat.le_refl _) hB)
              replace Tb := Lib.hid (Tb.out.below hB Tb.out.lt)
              replace Ty := Lib.hid (Ty.out.below hB Ty.out.lt)
              replace Tx := Lib.hid (Tx.out.below hB Tx.out.lt)
              replace Tq := Lib.hid (Tq.out.below hB Tq.out.lt)
              replace Ts := Lib.hid (Ts.out.below hB Ts.out.lt)
              replace Tk := Lib.hid (Tk.out.below hB Tk.out.lt)
              replace HB := Lib.hid (HB.out.trans (hB.mono HB.out.size))
              replace HBl := Lib.hid (HBl.out.trans (hB.mono HBl.out.size))
              replace HBr := Lib.hid (HBr.out.trans (hB.mono HBr.out.size))
              have Tt := Tt'
              clear hB Tt'
              rw [hw]
              try rw [hb]
              clear hw hb
              refine hK.out _ _ HBr.out (fun hHeld => ?_)
              clear hK K
              try simp only [Act.put, List.setIfInBounds_toArray, List.set_cons_zero, List.set_cons_succ]
              have f0 := Tk.out.cell0
              have g0 := Tk.out.frozen 0
              have f1 := Tk.out.cell1
              have g1 := Tk.out.frozen 1
              obtain ⟨w22, hw⟩ : ∃ w', (w21.setCell ⟨b_k, 0, none⟩ (.bool s_k)).setCell ⟨b_k, 1, none⟩ (.slice a_k n_k c_k) = w' := ⟨_, rfl⟩
              have Tz := Tk
              replace Tt : Hid (Two w22 b_t 25 (.bool false) (.slice none 0 0)) := Lib.hid (by rw [← hw]; exact Tt.out.far2 (by omega) _ _)
              replace Hk : Hid (RInt w22 (.agg #[.bool s_k, .slice a_k n_k c_k]) (qOf zj B)) := Lib.hid (by rw [← hw]; exact Hk.out.set_two Tz.out _ _)
              replace Ht : Hid (RInt w22 (.agg #[.bool s_t, .slice a_t n_t c_t]) (((rOf zj B : Nat) : Int))) := Lib.hid (by rw [← hw]; exact Ht.out.set_two Tz.out _ _)
              replace Tk : Hid (Two w22 b_k 25 (.bool s_k) (.slice a_k n_k c_k)) := Lib.hid (by rw [← hw]; exact Tz.out.put2 _ _)
              replace HBr : Hid (Below w17.heap.size w17 w22) := Lib.hid (by rw [← hw]; exact (HBr.out.setCell (p := ⟨b_k, 0, none⟩) hl_k _).setCell (p := ⟨b_k, 1, none⟩) hl_k _)
              refine stepK 11 (by kernel_rfl) rfl (fun K hK => ?_)
              go_simp
              try rw [hw]
              clear f0 f1 g0 g1 hw
              refine hK.out _ _ HBr.out (fun hHeld => ?_)
              clear hK K
              try simp only [Act.put, List.setIfInBounds_toArray, List.set_cons_zero, List.set_cons_succ]
              have f0 := Tt.out.cell0
              have g0 := Tt.out.frozen 0
              have f1 := Tt.out.cell1
              have g1 := Tt.out.frozen 1
              obtain ⟨w23, hw⟩ : ∃ w', (w22.setCell ⟨b_t, 0, none⟩ (.bool s_t)).setCell ⟨b_t, 1, none⟩ (.slice a_t n_t c_t) = w' := ⟨_, rfl⟩
              have Tz := Tt
              replace Tk : Hid (Two w23 b_k 25 (.bool s_k) (.slice a_k n_k c_k)) := Lib.hid (by rw [← hw]; exact Tk.out.far2 (by omega) _ _)
              replace Hk : Hid (RInt w23 (.agg #[.bool s_k, .slice a_k n_k c_k]) (qOf zj B)) := Lib.hid (by rw [← hw]; exact Hk.out.set_two Tz.out _ _)
              replace Ht : Hid (RInt w23 (.agg #[.bool s_t, .slice a_t n_t c_t]) (((rOf zj B : Nat) : Int))) := Lib.hid (by rw [← hw]; exact Ht.out.set_two Tz.out _ _)
              replace Tt : Hid (Two w23 b_t 25 (.bool s_t) (.slice a_t n_t c_t)) := Lib.hid (by rw [← hw]; exact Tz.out.put2 _ _)
              replace HBr : Hid (Below w17.heap.size w17 w23) := Lib.hid (by rw [← hw]; exact (HBr.out.setCell (p := ⟨b_t, 0, none⟩) hl_t _).setCell (p := ⟨b_t, 1, none⟩) hl_t _)
              refine lastK (by kernel_rfl) rfl (by kernel_rfl) (fun K hK => ?_)
              go_simp
              refine hK.out _ _ ?_
              clear hK K
              try simp only [Act.put, List.setIfInBounds_toArray, List.set_cons_zero, List.set_cons_succ]
              try rw [hw]
              refine joinQ_normal ⟨_, _, _, _, _, _, _, _, _, _, _, _, _, _, _, _, _, _, _, by first | rfl | (simp only [List.setIfInBounds_toArray, List.set_cons_zero, List.set_cons_succ]; rfl), HBr, Hk, Ht, Tk, Tt⟩
            · skip
              go_simp
              obtain ⟨w20, hw⟩ : ∃ w', w19.alloc (.cells #[.bool false, .slice none 0 0] 25) = w' := ⟨_, rfl⟩
              have hB : Below w19.heap.size w19 w20 := by rw [← hw]; exact (Below.refl _ _).alloc (Nat.le_refl _) _
              obtain ⟨b_t, hb⟩ : ∃ b, w19.heap.size = b := ⟨_, rfl⟩
              have Tt' : Hid (Two w20 b_t 25 (.bool false) (.slice none 0 0)) := Lib.hid (by rw [← hw, ← hb]; exact Two.new w19 25 (.bool false) (.slice none 0 0))
              have hl_t : w17.heap.size ≤ b_t := by rw [← hb]; exact HBr.out.size
              have hne_k_t : b_k < b_t := by rw [← hb]; exact Tk.out.lt
              replace Hb := Lib.hid (Hb.out.below (Nat.le_refl _) hB)
              replace HN := Lib.hid (HN.out.below hB)
              replace Hy := Lib.hid (Hy.out.below hB)
              replace Hr := Lib.hid (Hr.out.below hB)
              replace Hx := Lib.hid (Hx.out.below hB)
              replace Hq := Lib.hid (Hq.out.below hB)
              replace Hs := Lib.hid (Hs.out.below hB)
              replace Tb := Lib.hid (Tb.out.below hB Tb.out.lt)
              replace Ty := Lib.hid (Ty.out.below hB Ty.out.lt)
              replace Tx := Lib.hid (Tx.out.below hB Tx.out.lt)
              replace Tq := Lib.hid (Tq.out.below hB Tq.out.lt)
              replace Ts := Lib.hid (Ts.out.below hB Ts.out.lt)
              replace Tk := Lib.hid (Tk.out.below hB Tk.out.lt)
              replace HB := Lib.hid (HB.out.trans (hB.mono HB.out.size))
              replace HBl := Lib.hid (HBl.out.trans (hB.mono HBl.out.size))
              replace HBr := Lib.hid (HBr.out.trans (hB.mono HBr.out.size))
              have Tt := Tt'
              clear hB Tt'
              rw [hw]
              try rw [hb]
              clear hw hb
              refine hK.out _ _ HBr.out (fun hHeld => ?_)
              clear hK K
              try simp only [Act.put, List.setIfInBounds_toArray, List.set_cons_zero, List.set_cons_succ]
              refine stepK 5 (by kernel_rfl) rfl (fun K hK => ?_)
              go_simp
              refine (rdiv_any _ _ zj B w20 Hr.out.r Hb.out hy0 (Nat.le_trans (lim_len4 _ Hzl.out) (by omega)) (Nat.le_trans (lim_len4 _ HR.out.b) (by omega))).mono ?_
              rintro e w21 ⟨hB, vk, vt, rfl, hk, ht⟩
              replace Hb := Lib.hid (Hb.out.below (Nat.le_refl _) hB)
              replace HN := Lib.hid (HN.out.below hB)
              replace Hy := Lib.hid (Hy.out.below hB)
              replace Hr := Lib.hid (Hr.out.below hB)
              replace Hx := Lib.hid (Hx.out.below hB)
              replace Hq := Lib.hid (Hq.out.below hB)
              replace Hs := Lib.hid (Hs.out.below hB)
              replace Tb := Lib.hid (Tb.out.below hB Tb.out.lt)
              replace Ty := Lib.hid (Ty.out.below hB Ty.out.lt)
              replace Tx := Lib.hid (Tx.out.below hB Tx.out.lt)
              replace Tq := Lib.hid (Tq.out.below hB Tq.out.lt)
              replace Ts := Lib.hid (Ts.out.below hB Ts.out.lt)
              replace Tk := Lib.hid (Tk.out.below hB Tk.out.lt)
              replace Tt := Lib.hid (Tt.out.below hB Tt.out.lt)
              replace HB := Lib.hid (HB.out.trans (hB.mono HB.out.size))
              replace HBl := Lib.hid (HBl.out.trans (hB.mono HBl.out.size))
              replace HBr := Lib.hid (HBr.out.trans (hB.mono HBr.out.size))
              have Hk := Lib.hid hk
              obtain ⟨s_k, a_k, n_k, c_k, rfl⟩ := hk.form2
              have Ht := Lib.hid ht
              obtain ⟨s_t, a_t, n_t, c_t, rfl⟩ := ht.form2
              clear hB hk ht
              refine hK.out _ _ HBr.out (fun hHeld => ?_)
              clear hK K
              try simp only [Act.put, List.setIfInBounds_toArray, List.set_cons_zero, List.set_cons_succ]
              refine takeK 6 83 (v := ?_) rfl rfl (by kernel_rfl) (by kernel_rfl) (by kernel_rfl) (by kernel_rfl) (fun _ _ _ h => h) (by rfl) ?_ (by assumption) ?_
              rotate_left
              · (intro w hSw; go_simp; first | done | with_reducible rfl)
              simp only [List.setIfInBounds_toArray, List.set_cons_zero, List.set_cons_succ]
              refine takeK 7 90 (v := ?_) rfl rfl (by kernel_rfl) (by kernel_rfl) (by kernel_rfl) (by kernel_rfl) (fun _ _ _ h => h) (by rfl) ?_ (by assumption) ?_
              rotate_left
              · (intro w hSw; go_simp; first | done | with_reducible rfl)
              simp only [List.setIfInBounds_toArray, List.set_cons_zero, List.set_cons_succ]
              refine takeK 8 91 (v := ?_) rfl rfl (by kernel_rfl) (by kernel_rfl) (by kernel_rfl) (by kernel_rfl) (fun _ _ _ h => h) (by rfl) ?_ (by assumption) ?_
              rotate_left
              · (intro w hSw; go_simp; first | done | with_reducible rfl)
              simp only [List.setIfInBounds_toArray, List.set_cons_zero, List.set_cons_succ]
              have f0 := Tk.out.cell0
              have g0 := Tk.out.frozen 0
              have f1 := Tk.out.cell1
              have g1 := Tk.out.frozen 1
              obtain ⟨w22, hw⟩ : ∃ w', (w21.setCell ⟨b_k, 0, none⟩ (.bool s_k)).setCell ⟨b_k, 1, none⟩ (.slice a_k n_k c_k) = w' := ⟨_, rfl⟩
              have Tz := Tk
              replace Tt : Hid (Two w22 b_t 25 (.bool false) (.slice none 0 0)) := Lib.hid (by rw [← hw]; exact Tt.out.far2 (by omega) _ _)
              replace Hk : Hid (RInt w22 (.agg #[.bool s_k, .slice a_k n_k c_k]) (qOf zj B)) := Lib.hid (by rw [← hw]; exact Hk.out.set_two Tz.out _ _)
              replace Ht : Hid (RInt w22 (.agg #[.bool s_t, .slice a_t n_t c_t]) (((rOf zj B : Nat) : Int))) := Lib.hid (by rw [← hw]; exact Ht.out.set_two Tz.out _ _)
              replace Tk : Hid (Two w22 b_k 25 (.bool s_k) (.slice a_k n_k c_k)) := Lib.hid (by rw [← hw]; exact Tz.out.put2 _ _)
              replace HBr : Hid (Below w17.heap.size w17 w22) := Lib.hid (by rw [← hw]; exact (HBr.out.setCell (p := ⟨b_k, 0, none⟩) hl_k _).setCell (p := ⟨b_k, 1, none⟩) hl_k _)
              refine stepK 11 (by kernel_rfl) rfl (fun K hK => ?_)
              go_simp
              try rw [hw]
              clear f0 f1 g0 g1 hw
              refine hK.out _ _ HBr.out (fun hHeld => ?_)
              clear hK K
              try simp only [Act.put, List.setIfInBounds_toArray, List.set_cons_zero, List.set_cons_succ]
              have f0 := Tt.out.cell0
              have g0 := Tt.out.frozen 0
              have f1 := Tt.out.cell1
              have g1 := Tt.out.frozen 1
              obtain ⟨w23, hw⟩ : ∃ w', (w22.setCell ⟨b_t, 0, none⟩ (.bool s_t)).setCell ⟨b_t, 1, none⟩ (.slice a_t n_t c_t) = w' := ⟨_, rfl⟩
              have Tz := Tt
              replace Tk : Hid (Two w23 b_k 25 (.bool s_k) (.slice a_k n_k c_k)) := Lib.hid (by rw [← hw]; exact Tk.out.far2 (by omega) _ _)
              replace Hk : Hid (RInt w23 (.agg #[.bool s_k, .slice a_k n_k c_k]) (qOf zj B)) := Lib.hid (by rw [← hw]; exact Hk.out.set_two Tz.out _ _)
              replace Ht : Hid (RInt w23 (.agg #[.bool s_t, .slice a_t n_t c_t]) (((rOf zj B : Nat) : Int))) := Lib.hid (by rw [← hw]; exact Ht.out.set_two Tz.out _ _)
              replace Tt : Hid (Two w23 b_t 25 (.bool s_t) (.slice a_t n_t c_t)) := Lib.hid (by rw [← hw]; exact Tz.out.put2 _ _)
              replace HBr : Hid (Below w17.heap.size w17 w23) := Lib.hid (by rw [← hw]; exact (HBr.out.setCell (p := ⟨b_t, 0, none⟩) hl_t _).setCell (p := ⟨b_t, 1, none⟩) hl_t _)
              refine lastK (by kernel_rfl) rfl (by kernel_rfl) (fun K hK => ?_)
              go_simp
              refine hK.out _ _ ?_
              clear hK K
              try simp only [Act.put, List.setIfInBounds_toArray, List.set_cons_zero, List.set_cons_succ]
              try rw [hw]
              refine joinQ_normal ⟨_, _, _, _, _, _, _, _, _, _, _, _, _, _, _, _, _, _, _, by first | rfl | (simp only [List.setIfInBounds_toArray, List.set_cons_zero, List.set_cons_succ]; rfl), HBr, Hk, Ht, Tk, Tt⟩
          · skip
            go_simp
            obtain ⟨w19, hw⟩ : ∃ w', w18.alloc (.cells #[.bool false, .slice none 0 0] 25) = w' := ⟨_, rfl⟩
            have hB : Below w18.heap.size w18 w19 := by rw [← hw]; exact (Below.refl _ _).alloc (Nat.le_refl _) _
            obtain ⟨b_t, hb⟩ : ∃ b, w18.heap.size = b := ⟨_, rfl⟩
            have Tt' : Hid (Two w19 b_t 25 (.bool false) (.slice none 0 0)) := Lib.hid (by rw [← hw, ← hb]; exact Two.new w18 25 (.bool false) (.slice none 0 0))
            have hl_t : w17.heap.size ≤ b_t := by rw [← hb]; exact HBr.out.size
            replace Hb := Lib.hid (Hb.out.below (Nat.le_refl _) hB)
            replace HN := Lib.hid (HN.out.below hB)
            replace Hy := Lib.hid (Hy.out.below hB)
            replace Hr := Lib.hid (Hr.out.below hB)
            replace Hx := Lib.hid (Hx.out.below hB)
            replace Hq := Lib.hid (Hq.out.below hB)
            replace Hs := Lib.hid (Hs.out.below hB)
            replace Tb := Lib.hid (Tb.out.below hB Tb.out.lt)
            replace Ty := Lib.hid (Ty.out.below hB Ty.out.lt)
            replace Tx := Lib.hid (Tx.out.below hB Tx.out.lt)
            replace Tq := Lib.hid (Tq.out.below hB Tq.out.lt)
            replace Ts := Lib.hid (Ts.out.below hB Ts.out.lt)
            replace HB := Lib.hid (HB.out.trans (hB.mono HB.out.size))
            replace HBl := Lib.hid (HBl.out.trans (hB.mono HBl.out.size))
            replace HBr := Lib.hid (HBr.out.trans (hB.mono HBr.out.size))
            have Tt := Tt'
            clear hB Tt'
            rw [hw]
            try rw [hb]
            clear hw hb
            refine hK.out _ _ HBr.out (fun hHeld => ?_)
            clear hK K
            try simp only [Act.put, List.setIfInBounds_toArray, List.set_cons_zero, List.set_cons_succ]
            refine forkK [5, 9] (by kernel_rfl) (by simp) ⟨forkOne 5 rfl (fun K hK => ?_), forkOne 9 rfl (fun K hK => ?_), trivial⟩
            · skip
              go_simp
              refine (rdiv_any _ _ zj B w19 Hr.out.r Hb.out hy0 (Nat.le_trans (lim_len4 _ Hzl.out) (by omega)) (Nat.le_trans (lim_len4 _ HR.out.b) (by omega))).mono ?_
              rintro e w20 ⟨hB, vk, vt, rfl, hk, ht⟩
              replace Hb := Lib.hid (Hb.out.below (Nat.le_refl _) hB)
              replace HN := Lib.hid (HN.out.below hB)
              replace Hy := Lib.hid (Hy.out.below hB)
              replace Hr := Lib.hid (Hr.out.below hB)
              replace Hx := Lib.hid (Hx.out.below hB)
              replace Hq := Lib.hid (Hq.out.below hB)
              replace Hs := Lib.hid (Hs.out.below hB)
              replace Tb := Lib.hid (Tb.out.below hB Tb.out.lt)
              replace Ty := Lib.hid (Ty.out.below hB Ty.out.lt)
              replace Tx := Lib.hid (Tx.out.below hB Tx.out.lt)
              replace Tq := Lib.hid (Tq.out.below hB Tq.out.lt)
              replace Ts := Lib.hid (Ts.out.below hB Ts.out.lt)
              replace Tt := Lib.hid (Tt.out.below hB Tt.out.lt)
              replace HB := Lib.hid (HB.out.trans (hB.mono HB.out.size))
              replace HBl := Lib.hid (HBl.out.trans (hB.mono HBl.out.size))
              replace HBr := Lib.hid (HBr.out.trans (hB.mono HBr.out.size))
              have Hk := Lib.hid hk
              obtain ⟨s_k, a_k, n_k, c_k, rfl⟩ := hk.form2
              have Ht := Lib.hid ht
              obtain ⟨s_t, a_t, n_t, c_t, rfl⟩ := ht.form2
              clear hB hk ht
              refine hK.out _ _ HBr.out (fun hHeld => ?_)
              clear hK K
              try simp only [Act.put, List.setIfInBounds_toArray, List.set_cons_zero, List.set_cons_succ]
              refine takeK 6 83 (v := ?_) rfl rfl (by kernel_rfl) (by kernel_rfl) (by kernel_rfl) (by kernel_rfl) (fun _ _ _ h => h) (by rfl) ?_ (by assumption) ?_
              rotate_left
              · (intro w hSw; go_simp; first | done | with_reducible rfl)
              simp only [List.setIfInBounds_toArray, List.set_cons_zero, List.set_cons_succ]
              refine takeK 7 90 (v := ?_) rfl rfl (by kernel_rfl) (by kernel_rfl) (by kernel_rfl) (by kernel_rfl) (fun _ _ _ h => h) (by rfl) ?_ (by assumption) ?_
              rotate_left
              · (intro w hSw; go_simp; first | done | with_reducible rfl)
              simp only [List.setIfInBounds_toArray, List.set_cons_zero, List.set_cons_succ]
              refine takeK 8 91 (v := ?_) rfl rfl (by kernel_rfl) (by kernel_rfl) (by kernel_rfl) (by kernel_rfl) (fun _ _ _ h => h) (by rfl) ?_ (by assumption) ?_
              rotate_left
              · (intro w hSw; go_simp; first | done | with_reducible rfl)
              simp only [List.setIfInBounds_toArray, List.set_cons_zero, List.set_cons_succ]
              refine stepK 9 (by kernel_rfl) rfl (fun K hK => ?_)
              go_simp
              obtain ⟨w21, hw⟩ : ∃ w', w20.alloc (.cells #[.bool false, .slice none 0 0] 25) = w' := ⟨_, rfl⟩
              have hB : Below w20.heap.size w20 w21 := by rw [← hw]; exact (Below.refl _ _).alloc (Nat.le_refl _) _
              obtain ⟨b_k, hb⟩ : ∃ b, w20.heap.size = b := ⟨_, rfl⟩
              have Tk' : Hid (Two w21 b_k 25 (.bool false) (.slice none 0 0)) := Lib.hid (by rw [← hw, ← hb]; exact Two.new w20 25 (.bool false) (.slice none 0 0))
              have hl_k : w17.heap.size ≤ b_k := by rw [← hb]; exact HBr.out.size
              have hne_t_k : b_t < b_k := by rw [← hb]; exact Tt.out.lt
              replace Hb := Lib.hid (Hb.out.below (Nat.le_refl _) hB)
              replace HN := Lib.hid (HN.out.below hB)
              replace Hy := Lib.hid (Hy.out.below hB)
              replace Hr := Lib.hid (Hr.out.below hB)
              replace Hx := Lib.hid (Hx.out.below hB)
              replace Hq := Lib.hid (Hq.out.below hB)
              replace Hs := Lib.hid (Hs.out.below hB)
              replace Hk := Lib.hid (Hk.out.below (Nat.le_refl _) hB)
              replace Ht := Lib.hid (Ht.out.below (Nat.le_refl _) hB)
              replace Tb := Lib.hid (Tb.out.below hB Tb.out.lt)
              replace Ty := Lib.hid (Ty.out.below hB Ty.out.lt)
              replace Tx := Lib.hid (Tx.out.below hB Tx.out.lt)
              replace Tq := Lib.hid (Tq.out.below hB Tq.out.lt)
              replace Ts := Lib.hid (Ts.out.below hB Ts.out.lt)
              replace Tt := Lib.hid (Tt.out.below hB Tt.out.lt)
              replace HB := Lib.hid (HB.out.trans (hB.mono HB.out.size))
              replace HBl := Lib.hid (HBl.out.trans (hB.mono HBl.out.size))
              replace HBr := Lib.hid (HBr.out.trans (hB.mono HBr.out.size))
              have Tk := Tk'
              clear hB Tk'
              rw [hw]
              try rw [hb]
              clear hw hb
              refine hK.out _ _ HBr.out (fun hHeld => ?_)
              clear hK K
              try simp only [Act.put, List.setIfInBounds_toArray, List.set_cons_zero, List.set_cons_succ]
              have f0 := Tk.out.cell0
              have g0 := Tk.out.frozen 0
              have f1 := Tk.out.cell1
              have g1 := Tk.out.frozen 1
              obtain ⟨w22, hw⟩ : ∃ w', (w21.setCell ⟨b_k, 0, none⟩ (.bool s_k)).setCell ⟨b_k, 1, none⟩ (.slice a_k n_k c_k) = w' := ⟨_, rfl⟩
              have Tz := Tk
              replace Tt : Hid (Two w22 b_t 25 (.bool false) (.slice none 0 0)) := Lib.hid (by rw [← hw]; exact Tt.out.far2 (by omega) _ _)
              replace Hk : Hid (RInt w22 (.agg #[.bool s_k, .slice a_k n_k c_k]) (qOf zj B)) := Lib.hid (by rw [← hw]; exact Hk.out.set_two Tz.out _ _)
              replace Ht : Hid (RInt w22 (.agg #[.bool s_t, .slice a_t n_t c_t]) (((rOf zj B : Nat) : Int))) := Lib.hid (by rw [← hw]; exact Ht.out.set_two Tz.out _ _)
              replace Tk : Hid (Two w22 b_k 25 (.bool s_k) (.slice a_k n_k c_k)) := Lib.hid (by rw [← hw]; exact Tz.out.put2 _ _)
              replace HBr : Hid (Below w17.heap.size w17 w22) := Lib.hid (by rw [← hw]; exact (HBr.out.setCell (p := ⟨b_k, 0, none⟩) hl_k _).setCell (p := ⟨b_k, 1, none⟩) hl_k _)
              refine stepK 11 (by kernel_rfl) rfl (fun K hK => ?_)
              go_simp
              try rw [hw]
              clear f0 f1 g0 g1 hw
              refine hK.out _ _ HBr.out (fun hHeld => ?_)
              clear hK K
              try simp only [Act.put, List.setIfInBounds_toArray, List.set_cons_zero, List.set_cons_succ]
              have f0 := Tt.out.cell0
              have g0 := Tt.out.frozen 0
              have f1 := Tt.out.cell1
              have g1 := Tt.out.frozen 1
              obtain ⟨w23, hw⟩ : ∃ w', (w22.setCell ⟨b_t, 0, none⟩ (.bool s_t)).setCell ⟨b_t, 1, none⟩ (.slice a_t n_t c_t) = w' := ⟨_, rfl⟩
              have Tz := Tt
              replace Tk : Hid (Two w23 b_k 25 (.bool s_k) (.slice a_k n_k c_k)) := Lib.hid (by rw [← hw]; exact Tk.out.far2 (by omega) _ _)
              replace Hk : Hid (RInt w23 (.agg #[.bool s_k, .slice a_k n_k c_k]) (qOf zj B)) := Lib.hid (by rw [← hw]; exact Hk.out.set_two Tz.out _ _)
              replace Ht : Hid (RInt w23 (.agg #[.bool s_t, .slice a_t n_t c_t]) (((rOf zj B : Nat) : Int))) := Lib.hid (by rw [← hw]; exact Ht.out.set_two Tz.out _ _)
              replace Tt : Hid (Two w23 b_t 25 (.bool s_t) (.slice a_t n_t c_t)) := Lib.hid (by rw [← hw]; exact Tz.out.put2 _ _)
              replace HBr : Hid (Below w17.heap.size w17 w23) := Lib.hid (by rw [← hw]; exact (HBr.out.setCell (p := ⟨b_t, 0, none⟩) hl_t _).setCell (p := ⟨b_t, 1, none⟩) hl_t _)
              refine lastK (by kernel_rfl) rfl (by kernel_rfl) (fun K hK => ?_)
              go_simp
              refine hK.out _ _ ?_
              clear hK K
              try simp only [Act.put, List.setIfInBounds_toArray, List.set_cons_zero, List.set_cons_succ]
              try rw [hw]
              refine joinQ_normal ⟨_, _, _, _, _, _, _, _, _, _, _, _, _, _, _, _, _, _, _, by first | rfl | (simp only [List.setIfInBounds_toArray, List.set_cons_zero, List.set_cons_succ]; rfl), HBr, Hk, Ht, Tk, Tt⟩
            · skip
              go_simp
              obtain ⟨w20, hw⟩ : ∃ w', w19.alloc (.cells #[.bool false, .slice none 0 0] 25) = w' := ⟨_, rfl⟩
              have hB : Below w19.heap.size w19 w20 := by rw [← hw]; exact (Below.refl _ _).alloc (Nat.le_refl _) _
              obtain ⟨b_k, hb⟩ : ∃ b, w19.heap.size = b := ⟨_, rfl⟩
              have Tk' : Hid (Two w20 b_k 25 (.bool false) (.slice none 0 0)) := Lib.hid (by rw [← hw, ← hb]; exact Two.new w19 25 (.bool false) (.slice none 0 0))
              have hl_k : w17.heap.size ≤ b_k := by rw [← hb]; exact HBr.out.size
              have hne_t_k : b_t < b_k := by rw [← hb]; exact Tt.out.lt
              replace Hb := Lib.hid (Hb.out.below (Nat.le_refl _) hB)
              replace HN := Lib.hid (HN.out.below hB)
              replace Hy := Lib.hid (Hy.out.below hB)
              replace Hr := Lib.hid (Hr.out.below hB)
              replace Hx := Lib.hid (Hx.out.below hB)
              replace Hq := Lib.hid (Hq.out.below hB)
              replace Hs := Lib.hid (Hs.out.below hB)
              replace Tb := Lib.hid (Tb.out.below hB Tb.out.lt)
              replace Ty := Lib.hid (Ty.out.below hB Ty.out.lt)
              replace Tx := Lib.hid (Tx.out.below hB Tx.out.lt)
              replace Tq := Lib.hid (Tq.out.below hB Tq.out.lt)
              replace Ts := Lib.hid (Ts.out.below hB Ts.out.lt)
              replace Tt := Lib.hid (Tt.out.below hB Tt.out.lt)
              replace HB := Lib.hid (HB.out.trans (hB.mono HB.out.size))
              replace HBl := Lib.hid (HBl.out.trans (hB.mono HBl.out.size))
              replace HBr := Lib.hid (HBr.out.trans (hB.mono HBr.out.size))
              have Tk := Tk'
              clear hB Tk'
              rw [hw]
              try rw [hb]
              clear hw hb
              refine hK.out _ _ HBr.out (fun hHeld => ?_)
              clear hK K
              try simp only [Act.put, List.setIfInBounds_toArray, List.set_cons_zero, List.set_cons_succ]
              refine stepK 5 (by kernel_rfl) rfl (fun K hK => ?_)
              go_simp
              refine (rdiv_any _ _ zj B w20 Hr.out.r Hb.out hy0 (Nat.le_trans (lim_len4 _ Hzl.out) (by omega)) (Nat.le_trans (lim_len4 _ HR.out.b) (by omega))).mono ?_
              rintro e w21 ⟨hB, vk, vt, rfl, hk, ht⟩
              replace Hb := Lib.hid (Hb.out.below (Nat.le_refl _) hB)
              replace HN := Lib.hid (HN.out.below hB)
              replace Hy := Lib.hid (Hy.out.below hB)
              replace Hr := Lib.hid (Hr.out.below hB)
              replace Hx := Lib.hid (Hx.out.below hB)
              replace Hq := Lib.hid (Hq.out.below hB)
              replace Hs := Lib.hid (Hs.out.below hB)
              replace Tb := Lib.hid (Tb.out.below hB Tb.out.lt)
              replace Ty := Lib.hid (Ty.out.below hB Ty.out.lt)
              replace Tx := Lib.hid (Tx.out.below hB Tx.out.lt)
              replace Tq := Lib.hid (Tq.out.below hB Tq.out.lt)
              replace Ts := Lib.hid (Ts.out.below hB Ts.out.lt)
              replace Tt := Lib.hid (Tt.out.below hB Tt.out.lt)
              replace Tk := Lib.hid (Tk.out.below hB Tk.out.lt)
              replace HB := Lib.hid (HB.out.trans (hB.mono HB.out.size))
              replace HBl := Lib.hid (HBl.out.trans (hB.mono HBl.out.size))
              replace HBr := Lib.hid (HBr.out.trans (hB.mono HBr.out.size))
              have Hk := Lib.hid hk
              obtain ⟨s_k, a_k, n_k, c_k, rfl⟩ := hk.form2
              have Ht := Lib.hid ht
              obtain ⟨s_t, a_t, n_t, c_t, rfl⟩ := ht.form2
              clear hB hk ht
              refine hK.out _ _ HBr.out (fun hHeld => ?_)
              clear hK K
              try simp only [Act.put, List.setIfInBounds_toArray, List.set_cons_zero, List.set_cons_succ]
              refine takeK 6 83 (v := ?_) rfl rfl (by kernel_rfl) (by kernel_rfl) (by kernel_rfl) (by kernel_rfl) (fun _ _ _ h => h) (by rfl) ?_ (by assumption) ?_
              rotate_left
              · (intro w hSw; go_simp; first | done | with_reducible rfl)
              simp only [List.setIfInBounds_toArray, List.set_cons_zero, List.set_cons_succ]
              refine takeK 7 90 (v := ?_) rfl rfl (by kernel_rfl) (by kernel_rfl) (by kernel_rfl) (by kernel_rfl) (fun _ _ _ h => h) (by rfl) ?_ (by assumption) ?_
              rotate_left
              · (intro w hSw; go_simp; first | done | with_reducible rfl)
              simp only [List.setIfInBounds_toArray, List.set_cons_zero, List.set_cons_succ]
              refine takeK 8 91 (v := ?_) rfl rfl (by kernel_rfl) (by kernel_rfl) (by kernel_rfl) (by kernel_rfl) (fun _ _ _ h => h) (by rfl) ?_ (by assumption) ?_
              rotate_left
              · (intro w hSw; go_simp; first | done | with_reducible rfl)
              simp only [List.setIfInBounds_toArray, List.set_cons_zero, List.set_cons_succ]
              have f0 := Tk.out.cell0
              have g0 := Tk.out.frozen 0
              have f1 := Tk.out.cell1
              have g1 := Tk.out.frozen 1
              obtain ⟨w22, hw⟩ : ∃ w', (w21.setCell ⟨b_k, 0, none⟩ (.bool s_k)).setCell ⟨b_k, 1, none⟩ (.slice a_k n_k c_k) = w' := ⟨_, rfl⟩
              have Tz := Tk
              replace Tt : Hid (Two w22 b_t 25 (.bool false) (.slice none 0 0)) := Lib.hid (by rw [← hw]; exact Tt.out.far2 (by omega) _ _)
              replace Hk : Hid (RInt w22 (.agg #[.bool s_k, .slice a_k n_k c_k]) (qOf zj B)) := Lib.hid (by rw [← hw]; exact Hk.out.set_two Tz.out _ _)
              replace Ht : Hid (RInt w22 (.agg #[.bool s_t, .slice a_t n_t c_t]) (((rOf zj B : Nat) : Int))) := Lib.hid (by rw [← hw]; exact Ht.out.set_two Tz.out _ _)
              replace Tk : Hid (Two w22 b_k 25 (.bool s_k) (.slice a_k n_k c_k)) := Lib.hid (by rw [← hw]; exact Tz.out.put2 _ _)
              replace HBr : Hid (Below w17.heap.size w17 w22) := Lib.hid (by rw [← hw]; exact (HBr.out.setCell (p := ⟨b_k, 0, none⟩) hl_k _).setCell (p := ⟨b_k, 1, none⟩) hl_k _)
              refine stepK 11 (by kernel_rfl) rfl (fun K hK => ?_)
              go_simp
              try rw [hw]
              clear f0 f1 g0 g1 hw
              refine hK.out _ _ HBr.out (fun hHeld => ?_)
              clear hK K
              try simp only [Act.put, List.setIfInBounds_toArray, List.set_cons_zero, List.set_cons_succ]
              have f0 := Tt.out.cell0
              have g0 := Tt.out.frozen 0
              have f1 := Tt.out.cell1
              have g1 := Tt.out.frozen 1
              obtain ⟨w23, hw⟩ : ∃ w', (w22.setCell ⟨b_t, 0, none⟩ (.bool s_t)).setCell ⟨b_t, 1, none⟩ (.slice a_t n_t c_t) = w' := ⟨_, rfl⟩
              have Tz := Tt
              replace Tk : Hid (Two w23 b_k 25 (.bool s_k) (.slice a_k n_k c_k)) := Lib.hid (by rw [← hw]; exact Tk.out.far2 (by omega) _ _)
              replace Hk : Hid (RInt w23 (.agg #[.bool s_k, .slice a_k n_k c_k]) (qOf zj B)) := Lib.hid (by rw [← hw]; exact Hk.out.set_two Tz.out _ _)
              replace Ht : Hid (RInt w23 (.agg #[.bool s_t, .slice a_t n_t c_t]) (((rOf zj B : Nat) : Int))) := Lib.hid (by rw [← hw]; exact Ht.out.set_two Tz.out _ _)
              replace Tt : Hid (Two w23 b_t 25 (.bool s_t) (.slice a_t n_t c_t)) := Lib.hid (by rw [← hw]; exact Tz.out.put2 _ _)
              replace HBr : Hid (Below w17.heap.size w17 w23) := Lib.hid (by rw [← hw]; exact (HBr.out.setCell (p := ⟨b_t, 0, none⟩) hl_t _).setCell (p := ⟨b_t, 1, none⟩) hl_t _)
              refine lastK (by kernel_rfl) rfl (by kernel_rfl) (fun K hK => ?_)
              go_simp
              refine hK.out _ _ ?_
              clear hK K
              try simp only [Act.put, List.setIfInBounds_toArray, List.set_cons_zero, List.set_cons_succ]
              try rw [hw]
              refine joinQ_normal ⟨_, _, _, _, _, _, _, _, _, _, _, _, _, _, _, _, _, _, _, by first | rfl | (simp only [List.setIfInBounds_toArray, List.set_cons_zero, List.set_cons_succ]; rfl), HBr, Hk, Ht, Tk, Tt⟩
        · skip
          rintro a w117 ⟨v83, v84, v85, v86, v87, v88, v89, v90, v91, s_k, a_k, n_k, c_k, s_t, a_t, n_t, c_t, b_k, b_t, rfl, HBj, Hk', Ht', Tk', Tt'⟩
          have hB := HBj.out
          clear HBj
          replace Hb := Lib.hid (Hb.out.below (Nat.le_refl _) hB)
          replace HN := Lib.hid (HN.out.below hB)
          replace Hy := Lib.hid (Hy.out.below hB)
          replace Hr := Lib.hid (Hr.out.below hB)
          replace Hx := Lib.hid (Hx.out.below hB)
          replace Hq := Lib.hid (Hq.out.below hB)
          replace Hs := Lib.hid (Hs.out.below hB)
          replace Tb := Lib.hid (Tb.out.below hB Tb.out.lt)
          replace Ty := Lib.hid (Ty.out.below hB Ty.out.lt)
          replace Tx := Lib.hid (Tx.out.below hB Tx.out.lt)
          replace Tq := Lib.hid (Tq.out.below hB Tq.out.lt)
          replace Ts := Lib.hid (Ts.out.below hB Ts.out.lt)
          replace HB := Lib.hid (HB.out.trans (hB.mono HB.out.size))
          replace HBl := Lib.hid (HBl.out.trans (hB.mono HBl.out.size))
          have Hk := Hk'
          have Ht := Ht'
          have Tk := Tk'
          have Tt := Tt'
          clear hB Hk' Ht' Tk' Tt'
          simp only [List.setIfInBounds_toArray, List.set_cons_zero, List.set_cons_succ]
          have d0q_117 := Tq.out.cell0
          have d1q_117 := Tq.out.cell1
          have d0k_117 := Tk.out.cell0
          have d1k_117 := Tk.out.cell1
          go_wp2_with fail
          clear d0q_117 d1q_117 d0k_117 d1k_117
          refine (equal_any _ _ _ w117 Hq.out Hk.out HQ.out.1 (HP.out.below HB.out hg)).mono ?_
          rintro e w118 ⟨rfl, hB⟩
          replace Hb := Lib.hid (Hb.out.below (Nat.le_refl _) hB)
          replace HN := Lib.hid (HN.out.below hB)
          replace Hy := Lib.hid (Hy.out.below hB)
          replace Hr := Lib.hid (Hr.out.below hB)
          replace Hx := Lib.hid (Hx.out.below hB)
          replace Hq := Lib.hid (Hq.out.below hB)
          replace Hs := Lib.hid (Hs.out.below hB)
          replace Hk := Lib.hid (Hk.out.below (Nat.le_refl _) hB)
          replace Ht := Lib.hid (Ht.out.below (Nat.le_refl _) hB)
          replace Tb := Lib.hid (Tb.out.below hB Tb.out.lt)
          replace Ty := Lib.hid (Ty.out.below hB Ty.out.lt)
          replace Tx := Lib.hid (Tx.out.below hB Tx.out.lt)
          replace Tq := Lib.hid (Tq.out.below hB Tq.out.lt)
          replace Ts := Lib.hid (Ts.out.below hB Ts.out.lt)
          replace Tk := Lib.hid (Tk.out.below hB Tk.out.lt)
          replace Tt := Lib.hid (Tt.out.below hB Tt.out.lt)
          replace HB := Lib.hid (HB.out.trans (hB.mono HB.out.size))
          replace HBl := Lib.hid (HBl.out.trans (hB.mono HBl.out.size))
          clear hB 
          have d0s_118 := Ts.out.cell0
          have d1s_118 := Ts.out.cell1
          have d0t_118 := Tt.out.cell0
          have d1t_118 := Tt.out.cell1
          go_wp2_with fail
          clear d0s_118 d1s_118 d0t_118 d1t_118
          refine (equal_any _ _ _ w118 Hs.out Ht.out HQ.out.2 (HP.out.below HB.out hg)).mono ?_
          rintro e w119 ⟨rfl, hB⟩
          replace Hb := Lib.hid (Hb.out.below (Nat.le_refl _) hB)
          replace HN := Lib.hid (HN.out.below hB)
          replace Hy := Lib.hid (Hy.out.below hB)
          replace Hr := Lib.hid (Hr.out.below hB)
          replace Hx := Lib.hid (Hx.out.below hB)
          replace Hq := Lib.hid (Hq.out.below hB)
          replace Hs := Lib.hid (Hs.out.below hB)
          replace Hk := Lib.hid (Hk.out.below (Nat.le_refl _) hB)
          replace Ht := Lib.hid (Ht.out.below (Nat.le_refl _) hB)
          replace Tb := Lib.hid (Tb.out.below hB Tb.out.lt)
          replace Ty := Lib.hid (Ty.out.below hB Ty.out.lt)
          replace Tx := Lib.hid (Tx.out.below hB Tx.out.lt)
          replace Tq := Lib.hid (Tq.out.below hB Tq.out.lt)
          replace Ts := Lib.hid (Ts.out.below hB Ts.out.lt)
          replace Tk := Lib.hid (Tk.out.below hB Tk.out.lt)
          replace Tt := Lib.hid (Tt.out.below hB Tt.out.lt)
          replace HB := Lib.hid (HB.out.trans (hB.mono HB.out.size))
          replace HBl := Lib.hid (HBl.out.trans (hB.mono HBl.out.size))
          clear hB 
          go_wp2_with fail
          go_roundw
          case rel => exact ⟨j + 1, by omega, by go_num, HBl⟩
          case measure => simp [intOf]; omega
    · skip
      have hge : 3 ≤ j := by omega
      go_wp2_with fail
      refine (lives_any w13 (HP.out.below HB.out hg)).mono ?_
      rintro e w14 ⟨rfl, hB⟩
      replace Hb := Lib.hid (Hb.out.below (Nat.le_refl _) hB)
      replace HN := Lib.hid (HN.out.below hB)
      replace Hy := Lib.hid (Hy.out.below hB)
      replace Tb := Lib.hid (Tb.out.below hB Tb.out.lt)
      replace Ty := Lib.hid (Ty.out.below hB Ty.out.lt)
      replace HB := Lib.hid (HB.out.trans (hB.mono HB.out.size))
      clear hB 
      go_wp2
      go_ret
      exact ⟨rfl, HB.out⟩

end Go.Proofs.YtgfgjnkndfgdiaaDoor
