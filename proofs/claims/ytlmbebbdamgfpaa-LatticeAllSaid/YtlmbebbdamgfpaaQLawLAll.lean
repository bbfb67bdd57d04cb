/- worldmintlaw06.LatticeAll. -/
import Derived.Test.YtlmbebbdamgfpaaQLawLNormal
set_option linter.unusedVariables false
set_option linter.unusedSimpArgs false
set_option linter.unusedVariables false
set_option linter.unusedSimpArgs false
namespace Go.Proofs.Ytlmbebbdamgfpaa
open Go.RowKit

theorem MatSpec.small6 {m : List (List Int)} (h : MatSpec m 6) : SmallM m 60 := MatSpec.small ⟨h.rows, h.cols, fun r hr x hx => by have := h.ent r hr x hx; omega⟩
theorem cols_take {m : List (List Int)} {k : Nat} (hk : 0 < k) : colsOf (m.take k) = colsOf m := by
 unfold colsOf
 cases m with
 | nil => simp
 | cons r m =>
  cases k with
  | zero => omega
  | succ k => simp
theorem SmallM.take {m : List (List Int)} {X : Nat} (h : SmallM m X) : SmallM (m.take 4) X :=
 ⟨by have := h.rows; simp; omega, by rw [cols_take (by omega)]; exact h.cols, fun r hr => by rw [cols_take (by omega)]; exact h.even r (List.mem_of_mem_take hr), fun r hr => h.ent r (List.mem_of_mem_take hr)⟩
theorem MatAt.take {w : World} {a : Option Addr} {n c : Nat} {m : List (List Int)} (h : MatAt w (.slice a n c) m) (k : Nat) (hk : k ≤ m.length) : MatAt w (.slice a k c) (m.take k) := SliceOf.take h k hk
theorem vec_rep0 (n t : Nat) : vec (List.replicate n (0 : Int)) t = 0 := by
 unfold vec
 rw [List.getElem?_replicate]
 split <;> rfl
theorem five_le {i k : Nat} (h : i ≤ k) (hk : k ≤ 4) : 5 ^ i ≤ 625 := Nat.le_trans (Nat.pow_le_pow_right (by omega) (by omega)) (by decide : 5 ^ 4 ≤ 625)
/-- one list is a multiple of the other -/
theorem mul_set {cs ds : List Int} {f z : Int} {i : Nat} (h : ∀ t, vec ds t = f * vec cs t) (hl : ds.length = cs.length) (hi : i < cs.length) (t : Nat) : vec (ds.set i (f * z)) t = f * vec (cs.set i z) t := by
 rw [vec_set (by omega), vec_set hi]
 split
 ·rfl
 ·exact h t
theorem tmod_range (r : Int) (k : Int) (h : 0 ≤ r) (hk : 0 < k) : 0 ≤ r.tmod k ∧ r.tmod k < k := ⟨Int.tmod_nonneg _ h, Int.tmod_lt_of_pos _ hk⟩
theorem tdiv_range (r : Int) (k : Int) (h : 0 ≤ r) (hk : 0 < k) : 0 ≤ r.tdiv k ∧ r.tdiv k ≤ r := by
 rw [Int.tdiv_eq_ediv_of_nonneg h]
 exact ⟨Int.ediv_nonneg h (by omega), Int.ediv_le_self _ h⟩

set_option maxRecDepth 100000 in
set_option maxHeartbeats 8000000 in
theorem latticeAll_any (vl : Value) (zl : List Int) (nl : Nat) (w0 : World) (hl : IntsAt w0 vl zl nl) :
 Calls Try.prog 7 #[vl] w0 fun e w' => e = .returned (.bool true) ∧ Below w0.heap.size w0 w' := by
 have HB := hZ (Below.refl w0.heap.size w0)
 have HL := hZ hl
 clear hl
 go_enter Try.func7, Try.ntmps7
 go_wp2_with fail
 refine (matrix_any vl zl nl 6 w0 HL.o (by omega) (by omega)).mono ?_
 rintro e w1 ⟨m0, u, rfl, hu, hS, hB⟩
 have HM := hZ hu
 have S0 := hZ hS.small6
 replace HB := bT HB hB
 clear hu hS hB HL
 obtain ⟨am, cm, rfl, q1, q2⟩ := HM.o.form
 by_cases h4 : 4 < m0.length
 ·skip
  have s1 : (4 : Int) < (m0.length : Int) := by omega
  obtain ⟨m, hm⟩ : ∃ m, m0.take 4 = m := ⟨_, rfl⟩
  have hml : m.length = 4 := by rw [← hm, List.length_take]; omega
  have hn4 : (4 : Nat) ≤ 4 := Nat.le_refl _
  have S : Hid (SmallM m 60) := hZ (hm ▸ S0.o.take)
  have HM9 : Hid (MatAt w1 (.slice am 4 cm) m) := hZ (hm ▸ HM.o.take 4 (by omega))
  have hcm : 4 ≤ cm := by omega
  clear hm S0 HM
  have HM := HM9
  clear HM9
  have HMl : Hid (m.length = 4) := hZ hml
  go_wp2_with fail
  have HZ := hZ (S.o.chk (by omega))
  have HRows := hZ S.o.rows
  refine (kernel_any w1 _ m HM.o).mono ?_
  rintro e w2 ⟨hB, ⟨hz, -⟩ | ⟨-, H2, k1, k2, k4, k3⟩⟩
  ·exact absurd HZ.o hz
  have HT2 := hZ (S.o.ker k1)
  obtain ⟨uk, rfl, hu⟩ := k3.fit (fit_top HT2.o)
  have MK' := hZ hu
  have K2 := hZ (And.intro k1 (And.intro k2 k4))
  clear k1 k2 k3 k4 hu
  replace HM := hZ (HM.o.blw hB)
  replace HB := bT HB hB
  clear hB
  have MK := MK'
  clear MK'
  go_wp2_with fail
  refine (hermite_any w2 _ m HM.o).mono ?_
  rintro e w3 ⟨hB, ⟨hz, -⟩ | ⟨-, H1, k1, k2, k4, k3⟩⟩
  ·exact absurd HZ.o hz
  have HT1 := hZ (S.o.herm k1)
  obtain ⟨ua, rfl, hu⟩ := k3.fit (fit_top HT1.o)
  obtain ⟨ah, ch, rfl, -, -⟩ := hu.form
  have Hrk := hZ (ranks S.o.even k1 K2.o.1)
  clear k1 k2 k3 k4 hu HT1
  replace HM := hZ (HM.o.blw hB)
  replace MK := hZ (MK.o.blw hB)
  replace HB := bT HB hB
  clear hB
  obtain ⟨ak, ck, rfl, -, -⟩ := MK.o.form
  have hrk : (H2.length : Int) + (H1.length : Int) = (4 : Int) := by have := Hrk.o; have := HMl.o; simp only [List.length_map] at *; omega
  have hb1 : H2.length ≤ 5 := by have := K2.o.2.2; have := HRows.o; omega
  have hwr : IntKind.i64.wrap ((H2.length : Int) + (H1.length : Int)) = (4 : Int) := by rw [hrk]; exact IntWalk.i64_in _ (by omega)
  go_wp2_with fail
  go_loopw [9, 8] (fun iv tv wr => ∃ i : Nat, i ≤ 4 ∧ iv = .int .i64 i ∧ tv = .int .i64 ((5 ^ i : Nat) : Int) ∧ w3 = wr) (fun iv _ _ => 4 - (intOf iv).toNat)
  case atStart => exact ⟨0, by omega, rfl, rfl, by trivial⟩
  case round =>
   obtain ⟨i, hi, rfl, rfl, rfl⟩ := hrel
   have h5 := five_le hi hn4
   by_cases hlt : i < 4
   ·skip
    have n1 : (i : Int) < (4 : Int) := by omega
    have h55 : 5 ^ (i + 1) = 5 ^ i * 5 := Nat.pow_succ ..
    generalize 5 ^ i = p5 at *
    go_wp2_with fail
    go_roundw
    case rel => exact ⟨i + 1, by omega, by go_num, by rw [h55]; go_num, by trivial⟩
    case measure => simp [intOf]; omega
   ·skip
    generalize htot : 5 ^ i = tot at *
    clear htot
    go_wp2_with fail
    go_loopw [10] (fun nv wr => ∃ n : Nat, n ≤ tot ∧ nv = .int .i64 n ∧ Hid (MatAt wr (.slice am 4 cm) m) ∧ Hid (MatAt wr (.slice ak H2.length ck) H2) ∧ Hid (Below w0.heap.size w0 wr)) (fun nv _ => tot - (intOf nv).toNat)
    case atStart => exact ⟨0, by omega, rfl, HM, MK, HB⟩
    case round =>
     clear HM MK HB
     obtain ⟨n, hn, rfl, HM, MK, HB⟩ := hrel
     obtain ⟨w3, rfl⟩ : ∃ w' : World, w' = wr := ⟨_, rfl⟩
     by_cases hnt : n < tot
     ·skip
      have n1 : (n : Int) < (tot : Int) := by omega
      obtain ⟨ws, hws⟩ : ∃ w', w' = w3 := ⟨_, rfl⟩
      have HS : Hid (Below ws.heap.size ws w3) := hZ (by rw [hws]; exact Below.refl _ _)
      rw [← hws] at HM MK HB
      clear hws
      go_wp2_with (at_make; refine wpList_make_ints rfl rfl (4) rfl rfl rfl rfl (by omega) ?_)
      intro w4 h_9 hB hlt9
      obtain ⟨gv, hb⟩ : ∃ b, w3.heap.size = b := ⟨_, rfl⟩
      rw [hb] at h_9 ⊢
      have Ov' := hZ h_9
      have hge_gv : Hid (w3.heap.size ≤ gv) := hZ (Nat.le_of_eq hb)
      have hlt_gv : Hid (gv < w4.heap.size) := hZ (by rw [← hb]; exact hlt9)
      have HSz := hZ HS.o.size
      clear h_9 hb hlt9
      replace HS := bT HS hB
      clear hB
      have Ov := Ov'
      clear Ov'
      replace Ov : Hid (BlkC w4 gv 3 ((List.replicate 4 (0 : Int)).map zv)) := hZ (by have h9 := Ov.o; simpa [zv] using h9)
      go_wp2_with (at_make; refine wpList_make_ints rfl rfl (4) rfl rfl rfl rfl (by omega) ?_)
      intro w5 h_9 hB hlt9
      obtain ⟨gw, hb⟩ : ∃ b, w4.heap.size = b := ⟨_, rfl⟩
      rw [hb] at h_9 ⊢
      have Ow' := hZ h_9
      have hge_gw : Hid (w4.heap.size ≤ gw) := hZ (Nat.le_of_eq hb)
      have hlt_gw : Hid (gw < w5.heap.size) := hZ (by rw [← hb]; exact hlt9)
      clear h_9 hb hlt9
      replace Ov := hZ (Ov.o.blw hB)
      replace HS := bT HS hB
      clear hB
      have Ow := Ow'
      clear Ow'
      replace Ow : Hid (BlkC w5 gw 3 ((List.replicate 4 (0 : Int)).map zv)) := hZ (by have h9 := Ow.o; simpa [zv] using h9)
      have HGv : Hid (ws.heap.size ≤ gv ∧ ws.heap.size ≤ gw ∧ gv ≠ gw) := hZ (by have h1 := hge_gv.o; have h2 := hge_gw.o; have h3 := hlt_gv.o; have h4 := HSz.o; omega)
      clear hge_gv hge_gw hlt_gv hlt_gw HSz
      go_wp2_with fail
      obtain ⟨f, hf⟩ : ∃ z : Int, 2 + (n : Int).tmod 2 = z := ⟨_, rfl⟩
      have rf : f = 2 ∨ f = 3 := by have := tmod_range n 2 (by omega) (by omega); omega
      have hff : IntKind.i64.wrap (2 + (n : Int).tmod 2) = f := by rw [hf]; exact IntWalk.i64_in _ (by omega)
      have Hff := hZ hff
      clear hf hff
      go_loopw [14, 13] (fun iv rv wr => ∃ (i r : Nat) (cs ds : List Int), i ≤ 4 ∧ r ≤ 625 ∧ iv = .int .i64 i ∧ rv = .int .i64 r ∧ Hid (cs.length = m.length ∧ ds.length = m.length ∧ (∀ x ∈ cs, -2 ≤ x ∧ x ≤ 2) ∧ ∀ t, vec ds t = f * vec cs t) ∧ Hid (BlkC wr gv 3 (cs.map zv)) ∧ Hid (BlkC wr gw 3 (ds.map zv)) ∧ Hid (Below ws.heap.size ws wr)) (fun iv _ _ => 4 - (intOf iv).toNat)
      case atStart => exact ⟨0, n, List.replicate 4 0, List.replicate 4 0, by omega, by omega, rfl, rfl, hZ ⟨by rw [List.length_replicate, HMl.o], by rw [List.length_replicate, HMl.o], fun x hx => by rw [(List.mem_replicate.1 hx).2]; omega, fun t => by rw [vec_rep0]; simp⟩, Ov, Ow, HS⟩
      case round =>
       clear Ov Ow HS
       obtain ⟨i, r, cs, ds, hi, hr, rfl, rfl, HC, Ov, Ow, HS⟩ := hrel
       obtain ⟨w5, rfl⟩ : ∃ w' : World, w' = wr := ⟨_, rfl⟩
       by_cases hlt : i < 4
       ·skip
        have i1 : (0 : Int) ≤ (i : Int) := by omega
        have i2 : (i : Int) < (4 : Int) := by omega
        have hic : i < cs.length := by rw [HC.o.1, HMl.o]; exact hlt
        have hid : i < ds.length := by rw [HC.o.2.1, HMl.o]; exact hlt
        obtain ⟨t5, ht5⟩ : ∃ z : Int, (r : Int).tmod 5 = z := ⟨_, rfl⟩
        have rt5 := tmod_range r 5 (by omega) (by omega)
        rw [ht5] at rt5
        have ht5' : (r : Int) % 5 = t5 := by rw [← ht5, Int.tmod_eq_emod_of_nonneg (by omega)]
        obtain ⟨z1, hz1⟩ : ∃ z : Int, t5 - 2 = z := ⟨_, rfl⟩
        have hw1 : IntKind.i64.wrap (t5 - 2) = z1 := by rw [hz1]; exact IntWalk.i64_in _ (by omega)
        have rz1 : -2 ≤ z1 ∧ z1 ≤ 2 := by omega
        obtain ⟨f2, hf2⟩ : ∃ z : Int, (n : Int).tmod 2 = z := ⟨_, rfl⟩
        have hf2' : (n : Int) % 2 = f2 := by rw [← hf2, Int.tmod_eq_emod_of_nonneg (by omega)]
        have hff := Hff.o
        rw [hf2] at hff
        obtain ⟨z2, hz2⟩ : ∃ z : Int, f * z1 = z := ⟨_, rfl⟩
        have rz2 : -6 ≤ z2 ∧ z2 ≤ 6 := by rw [← hz2]; rcases rf with e | e <;> rw [e] <;> omega
        have hw2 : IntKind.i64.wrap (f * z1) = z2 := by rw [hz2]; exact IntWalk.i64_in _ (by omega)
        have Hz2 := hZ hz2
        obtain ⟨q5, hq5⟩ : ∃ z : Int, (r : Int).tdiv 5 = z := ⟨_, rfl⟩
        have rq5 := tdiv_range r 5 (by omega) (by omega)
        rw [hq5] at rq5
        have hq5' : (r : Int) / 5 = q5 := by rw [← hq5, Int.tdiv_eq_ediv_of_nonneg (by omega)]
        have hw5 : IntKind.i64.wrap q5 = q5 := IntWalk.i64_in _ (by omega)
        obtain ⟨r5, hr5⟩ := Int.eq_ofNat_of_zero_le rq5.1
        clear hz2
        obtain ⟨u9a, e1a⟩ : ∃ u, w5.cell? ⟨gv, i, none⟩ = some u := ⟨_, (Ov.o.cell i).trans (List.getElem?_eq_getElem (by rw [List.length_map]; exact hic))⟩
        have e2a := Ov.o.frozen i
        obtain ⟨w6, hwa⟩ : ∃ w', w5.setCell ⟨gv, i, none⟩ (.int .i64 z1) = w' := ⟨_, rfl⟩
        have ho : Only (fun b => b = gv) w5 w6 := by rw [← hwa]; exact (Only.refl (fun b => b = gv) _).set (p := ⟨gv, i, none⟩) rfl _
        have h9 : BlkC w6 gv 3 ((cs.set i z1).map zv) := by have h1 := Ov.o.set i (.int .i64 z1); rw [hwa, show (Value.int .i64 z1) = zv z1 from rfl, ← List.map_set] at h1; exact h1
        replace Ov := hZ h9
        clear h9
        replace Ow := hZ (Ow.o.only ho (by have := HGv.o; omega))
        have hBn : Below ws.heap.size ws w6 := below_only HS.o ho (fun b e => by have := HGv.o; omega) HS.o.size
        replace HS := hZ hBn
        clear hBn ho
        have c9 : w6.cell? ⟨gv, i, none⟩ = some (.int .i64 z1) := by rw [Ov.o.cell, List.getElem?_map, List.getElem?_set_self hic]; rfl
        obtain ⟨u9b, e1b⟩ : ∃ u, w6.cell? ⟨gw, i, none⟩ = some u := ⟨_, (Ow.o.cell i).trans (List.getElem?_eq_getElem (by rw [List.length_map]; exact hid))⟩
        have e2b := Ow.o.frozen i
        obtain ⟨w7, hwb⟩ : ∃ w', w6.setCell ⟨gw, i, none⟩ (.int .i64 z2) = w' := ⟨_, rfl⟩
        have ho : Only (fun b => b = gw) w6 w7 := by rw [← hwb]; exact (Only.refl (fun b => b = gw) _).set (p := ⟨gw, i, none⟩) rfl _
        have h9 : BlkC w7 gw 3 ((ds.set i z2).map zv) := by have h1 := Ow.o.set i (.int .i64 z2); rw [hwb, show (Value.int .i64 z2) = zv z2 from rfl, ← List.map_set] at h1; exact h1
        replace Ow := hZ h9
        clear h9
        replace Ov := hZ (Ov.o.only ho (by have := HGv.o; omega))
        have hBn : Below ws.heap.size ws w7 := below_only HS.o ho (fun b e => by have := HGv.o; omega) HS.o.size
        replace HS := hZ hBn
        clear hBn ho
        go_wp2_with fail
        try clear hwa
        try clear hwb
        clear c9 e1a e2a e1b e2b
        go_roundw
        case rel => exact ⟨i + 1, r5, cs.set i z1, ds.set i z2, by omega, by omega, by go_num, by first | rw [hr5] | simp [hr5], hZ ⟨by rw [List.length_set]; exact HC.o.1, by rw [List.length_set]; exact HC.o.2.1, fun x hx => by rcases List.mem_or_eq_of_mem_set hx with h9 | h9; exact HC.o.2.2.1 x h9; rw [h9]; exact rz1, fun t => by rw [← Hz2.o]; exact mul_set HC.o.2.2.2 (by rw [HC.o.1, HC.o.2.1]) hic t⟩, Ov, Ow, HS⟩
        case measure => simp [intOf]; omega
       ·skip
        have IV := hZ (IntsOf.lit Ov.o (HC.o.1.trans HMl.o) (by omega))
        have IW := hZ (IntsOf.lit Ow.o (HC.o.2.1.trans HMl.o) (by omega))
        replace HM := hZ (HM.o.blw HS.o)
        replace MK := hZ (MK.o.blw HS.o)
        replace HB := hZ (HB.o.trans (HS.o.mono HB.o.size))
        clear Ov Ow HS
        have HCt : Hid ((∀ x ∈ timesL ds m, x = 0) ↔ ∀ x ∈ timesL cs m, x = 0) := hZ (times_mul (a := f) (by omega) S.o.even HC.o.2.2.2)
        have hcs : ∀ x ∈ cs, -9223372036854775808 ≤ x ∧ x ≤ 9223372036854775807 := fun x hx => by have := HC.o.2.2.1 x hx; omega
        have hds : ∀ x ∈ ds, -9223372036854775808 ≤ x ∧ x ≤ 9223372036854775807 := fun x hx => by
         obtain ⟨j, rfl⟩ := vec_mem hx
         rw [HC.o.2.2.2]
         have h9 : -2 ≤ vec cs j ∧ vec cs j ≤ 2 := by
          rcases Nat.lt_or_ge j cs.length with h8 | h8
          ·rw [vec_at h8]; exact HC.o.2.2.1 _ (List.getElem_mem _)
          ·rw [vec_out h8]; omega
         rcases rf with e | e <;> rw [e] <;> omega
        have Hcs := hZ hcs
        have Hds := hZ hds
        clear hcs hds
        go_wp2_with fail
        refine (rtimes_any w5 _ _ cs m 2 60 HM.o IV.o HC.o.1 S.o.even (by have := HRows.o; omega) (by have := S.o.cols; omega) (fun x hx => by have := HC.o.2.2.1 x hx; omega) S.o.ent (by have := HRows.o; omega)).mono ?_
        rintro e w6 ⟨hB, ut, rfl, hu⟩
        have HT' := hZ hu
        clear hu
        replace IV := hZ (IV.o.blw hB)
        replace IW := hZ (IW.o.blw hB)
        replace HM := hZ (HM.o.blw hB)
        replace MK := hZ (MK.o.blw hB)
        replace HB := bT HB hB
        clear hB
        have HTm := HT'
        clear HT'
        go_wp2_with fail
        refine (zero_any w6 _ (timesL cs m) HTm.o).mono ?_
        rintro e w9 ⟨hw9, t0, rfl, ht0⟩
        replace hw9 := hw9.symm
        subst hw9
        have Ht0 := hZ ht0
        clear ht0
        go_wp2_with fail
        refine (in_any w6 _ _ H2 cs MK.o IV.o (fit_top HT2.o) Hcs.o).mono ?_
        rintro e w7 ⟨hB, tb, rfl, htb⟩
        obtain rfl : tb = t0 := Bool.eq_iff_iff.2 (htb.trans ((ker_in (by have := HRows.o; omega) (by have := K2.o.2.2; have := HRows.o; omega) S.o.even K2.o.2.1 K2.o.1 HC.o.1).trans Ht0.o.symm))
        clear htb
        replace IV := hZ (IV.o.blw hB)
        replace IW := hZ (IW.o.blw hB)
        replace HM := hZ (HM.o.blw hB)
        replace MK := hZ (MK.o.blw hB)
        replace HTm := hZ (HTm.o.blw hB)
        replace HB := bT HB hB
        clear hB
        go_wp2_with fail
        refine (in_any w7 _ _ H2 ds MK.o IW.o (fit_top HT2.o) Hds.o).mono ?_
        rintro e w8 ⟨hB, tb2, rfl, htb⟩
        obtain rfl : tb2 = tb := Bool.eq_iff_iff.2 (htb.trans ((ker_in (by have := HRows.o; omega) (by have := K2.o.2.2; have := HRows.o; omega) S.o.even K2.o.2.1 K2.o.1 HC.o.2.1).trans (HCt.o.trans Ht0.o.symm)))
        clear htb
        replace IV := hZ (IV.o.blw hB)
        replace IW := hZ (IW.o.blw hB)
        replace HM := hZ (HM.o.blw hB)
        replace MK := hZ (MK.o.blw hB)
        replace HTm := hZ (HTm.o.blw hB)
        replace HB := bT HB hB
        clear hB
        go_wp2_with fail
        go_roundw
        case rel => exact ⟨n + 1, by omega, by go_num, HM, MK, HB⟩
        case measure => simp [intOf]; omega
     ·skip
      obtain rfl : n = tot := by omega
      go_wp2_with fail
      refine (lives_any w3).mono ?_
      rintro e w4 ⟨rfl, hB⟩
      replace HM := hZ (HM.o.blw hB)
      replace MK := hZ (MK.o.blw hB)
      replace HB := bT HB hB
      clear hB
      go_wp2_with fail
      go_ret
      exact ⟨rfl, HB.o⟩
 ·skip
  have s1 : ¬ (4 : Int) < (m0.length : Int) := by omega
  obtain ⟨m, rfl⟩ : ∃ m, m = m0 := ⟨_, rfl⟩
  have S := S0
  obtain ⟨k, hk⟩ : ∃ k, m.length = k := ⟨_, rfl⟩
  have hml := hk
  have hn4 : k ≤ 4 := by omega
  rw [hk] at HM s1 h4 q1 ⊢
  clear hk S0
  have HMl : Hid (m.length = k) := hZ hml
  go_wp2_with fail
  have HZ := hZ (S.o.chk (by omega))
  have HRows := hZ S.o.rows
  refine (kernel_any w1 _ m HM.o).mono ?_
  rintro e w2 ⟨hB, ⟨hz, -⟩ | ⟨-, H2, k1, k2, k4, k3⟩⟩
  ·exact absurd HZ.o hz
  have HT2 := hZ (S.o.ker k1)
  obtain ⟨uk, rfl, hu⟩ := k3.fit (fit_top HT2.o)
  have MK' := hZ hu
  have K2 := hZ (And.intro k1 (And.intro k2 k4))
  clear k1 k2 k3 k4 hu
  replace HM := hZ (HM.o.blw hB)
  replace HB := bT HB hB
  clear hB
  have MK := MK'
  clear MK'
  go_wp2_with fail
  refine (hermite_any w2 _ m HM.o).mono ?_
  rintro e w3 ⟨hB, ⟨hz, -⟩ | ⟨-, H1, k1, k2, k4, k3⟩⟩
  ·exact absurd HZ.o hz
  have HT1 := hZ (S.o.herm k1)
  obtain ⟨ua, rfl, hu⟩ := k3.fit (fit_top HT1.o)
  obtain ⟨ah, ch, rfl, -, -⟩ := hu.form
  have Hrk := hZ (ranks S.o.even k1 K2.o.1)
  clear k1 k2 k3 k4 hu HT1
  replace HM := hZ (HM.o.blw hB)
  replace MK := hZ (MK.o.blw hB)
  replace HB := bT HB hB
  clear hB
  obtain ⟨ak, ck, rfl, -, -⟩ := MK.o.form
  have hrk : (H2.length : Int) + (H1.length : Int) = (k : Int) := by have := Hrk.o; have := HMl.o; simp only [List.length_map] at *; omega
  have hb1 : H2.length ≤ 5 := by have := K2.o.2.2; have := HRows.o; omega
  have hwr : IntKind.i64.wrap ((H2.length : Int) + (H1.length : Int)) = (k : Int) := by rw [hrk]; exact IntWalk.i64_in _ (by omega)
  go_wp2_with fail
  go_loopw [9, 8] (fun iv tv wr => ∃ i : Nat, i ≤ k ∧ iv = .int .i64 i ∧ tv = .int .i64 ((5 ^ i : Nat) : Int) ∧ w3 = wr) (fun iv _ _ => k - (intOf iv).toNat)
  case atStart => exact ⟨0, by omega, rfl, rfl, by trivial⟩
  case round =>
   obtain ⟨i, hi, rfl, rfl, rfl⟩ := hrel
   have h5 := five_le hi hn4
   by_cases hlt : i < k
   ·skip
    have n1 : (i : Int) < (k : Int) := by omega
    have h55 : 5 ^ (i + 1) = 5 ^ i * 5 := Nat.pow_succ ..
    generalize 5 ^ i = p5 at *
    go_wp2_with fail
    go_roundw
    case rel => exact ⟨i + 1, by omega, by go_num, by rw [h55]; go_num, by trivial⟩
    case measure => simp [intOf]; omega
   ·skip
    generalize htot : 5 ^ i = tot at *
    clear htot
    go_wp2_with fail
    go_loopw [10] (fun nv wr => ∃ n : Nat, n ≤ tot ∧ nv = .int .i64 n ∧ Hid (MatAt wr (.slice am k cm) m) ∧ Hid (MatAt wr (.slice ak H2.length ck) H2) ∧ Hid (Below w0.heap.size w0 wr)) (fun nv _ => tot - (intOf nv).toNat)
    case atStart => exact ⟨0, by omega, rfl, HM, MK, HB⟩
    case round =>
     clear HM MK HB
     obtain ⟨n, hn, rfl, HM, MK, HB⟩ := hrel
     obtain ⟨w3, rfl⟩ : ∃ w' : World, w' = wr := ⟨_, rfl⟩
     by_cases hnt : n < tot
     ·skip
      have n1 : (n : Int) < (tot : Int) := by omega
      obtain ⟨ws, hws⟩ : ∃ w', w' = w3 := ⟨_, rfl⟩
      have HS : Hid (Below ws.heap.size ws w3) := hZ (by rw [hws]; exact Below.refl _ _)
      rw [← hws] at HM MK HB
      clear hws
      go_wp2_with (at_make; refine wpList_make_ints rfl rfl (k) rfl rfl rfl rfl (by omega) ?_)
      intro w4 h_9 hB hlt9
      obtain ⟨gv, hb⟩ : ∃ b, w3.heap.size = b := ⟨_, rfl⟩
      rw [hb] at h_9 ⊢
      have Ov' := hZ h_9
      have hge_gv : Hid (w3.heap.size ≤ gv) := hZ (Nat.le_of_eq hb)
      have hlt_gv : Hid (gv < w4.heap.size) := hZ (by rw [← hb]; exact hlt9)
      have HSz := hZ HS.o.size
      clear h_9 hb hlt9
      replace HS := bT HS hB
      clear hB
      have Ov := Ov'
      clear Ov'
      replace Ov : Hid (BlkC w4 gv 3 ((List.replicate k (0 : Int)).map zv)) := hZ (by have h9 := Ov.o; simpa [zv] using h9)
      go_wp2_with (at_make; refine wpList_make_ints rfl rfl (k) rfl rfl rfl rfl (by omega) ?_)
      intro w5 h_9 hB hlt9
      obtain ⟨gw, hb⟩ : ∃ b, w4.heap.size = b := ⟨_, rfl⟩
      rw [hb] at h_9 ⊢
      have Ow' := hZ h_9
      have hge_gw : Hid (w4.heap.size ≤ gw) := hZ (Nat.le_of_eq hb)
      have hlt_gw : Hid (gw < w5.heap.size) := hZ (by rw [← hb]; exact hlt9)
      clear h_9 hb hlt9
      replace Ov := hZ (Ov.o.blw hB)
      replace HS := bT HS hB
      clear hB
      have Ow := Ow'
      clear Ow'
      replace Ow : Hid (BlkC w5 gw 3 ((List.replicate k (0 : Int)).map zv)) := hZ (by have h9 := Ow.o; simpa [zv] using h9)
      have HGv : Hid (ws.heap.size ≤ gv ∧ ws.heap.size ≤ gw ∧ gv ≠ gw) := hZ (by have h1 := hge_gv.o; have h2 := hge_gw.o; have h3 := hlt_gv.o; have h4 := HSz.o; omega)
      clear hge_gv hge_gw hlt_gv hlt_gw HSz
      go_wp2_with fail
      obtain ⟨f, hf⟩ : ∃ z : Int, 2 + (n : Int).tmod 2 = z := ⟨_, rfl⟩
      have rf : f = 2 ∨ f = 3 := by have := tmod_range n 2 (by omega) (by omega); omega
      have hff : IntKind.i64.wrap (2 + (n : Int).tmod 2) = f := by rw [hf]; exact IntWalk.i64_in _ (by omega)
      have Hff := hZ hff
      clear hf hff
      go_loopw [14, 13] (fun iv rv wr => ∃ (i r : Nat) (cs ds : List Int), i ≤ k ∧ r ≤ 625 ∧ iv = .int .i64 i ∧ rv = .int .i64 r ∧ Hid (cs.length = m.length ∧ ds.length = m.length ∧ (∀ x ∈ cs, -2 ≤ x ∧ x ≤ 2) ∧ ∀ t, vec ds t = f * vec cs t) ∧ Hid (BlkC wr gv 3 (cs.map zv)) ∧ Hid (BlkC wr gw 3 (ds.map zv)) ∧ Hid (Below ws.heap.size ws wr)) (fun iv _ _ => k - (intOf iv).toNat)
      case atStart => exact ⟨0, n, List.replicate k 0, List.replicate k 0, by omega, by omega, rfl, rfl, hZ ⟨by rw [List.length_replicate, HMl.o], by rw [List.length_replicate, HMl.o], fun x hx => by rw [(List.mem_replicate.1 hx).2]; omega, fun t => by rw [vec_rep0]; simp⟩, Ov, Ow, HS⟩
      case round =>
       clear Ov Ow HS
       obtain ⟨i, r, cs, ds, hi, hr, rfl, rfl, HC, Ov, Ow, HS⟩ := hrel
       obtain ⟨w5, rfl⟩ : ∃ w' : World, w' = wr := ⟨_, rfl⟩
       by_cases hlt : i < k
       ·skip
        have i1 : (0 : Int) ≤ (i : Int) := by omega
        have i2 : (i : Int) < (k : Int) := by omega
        have hic : i < cs.length := by rw [HC.o.1, HMl.o]; exact hlt
        have hid : i < ds.length := by rw [HC.o.2.1, HMl.o]; exact hlt
        obtain ⟨t5, ht5⟩ : ∃ z : Int, (r : Int).tmod 5 = z := ⟨_, rfl⟩
        have rt5 := tmod_range r 5 (by omega) (by omega)
        rw [ht5] at rt5
        have ht5' : (r : Int) % 5 = t5 := by rw [← ht5, Int.tmod_eq_emod_of_nonneg (by omega)]
        obtain ⟨z1, hz1⟩ : ∃ z : Int, t5 - 2 = z := ⟨_, rfl⟩
        have hw1 : IntKind.i64.wrap (t5 - 2) = z1 := by rw [hz1]; exact IntWalk.i64_in _ (by omega)
        have rz1 : -2 ≤ z1 ∧ z1 ≤ 2 := by omega
        obtain ⟨f2, hf2⟩ : ∃ z : Int, (n : Int).tmod 2 = z := ⟨_, rfl⟩
        have hf2' : (n : Int) % 2 = f2 := by rw [← hf2, Int.tmod_eq_emod_of_nonneg (by omega)]
        have hff := Hff.o
        rw [hf2] at hff
        obtain ⟨z2, hz2⟩ : ∃ z : Int, f * z1 = z := ⟨_, rfl⟩
        have rz2 : -6 ≤ z2 ∧ z2 ≤ 6 := by rw [← hz2]; rcases rf with e | e <;> rw [e] <;> omega
        have hw2 : IntKind.i64.wrap (f * z1) = z2 := by rw [hz2]; exact IntWalk.i64_in _ (by omega)
        have Hz2 := hZ hz2
        obtain ⟨q5, hq5⟩ : ∃ z : Int, (r : Int).tdiv 5 = z := ⟨_, rfl⟩
        have rq5 := tdiv_range r 5 (by omega) (by omega)
        rw [hq5] at rq5
        have hq5' : (r : Int) / 5 = q5 := by rw [← hq5, Int.tdiv_eq_ediv_of_nonneg (by omega)]
        have hw5 : IntKind.i64.wrap q5 = q5 := IntWalk.i64_in _ (by omega)
        obtain ⟨r5, hr5⟩ := Int.eq_ofNat_of_zero_le rq5.1
        clear hz2
        obtain ⟨u9a, e1a⟩ : ∃ u, w5.cell? ⟨gv, i, none⟩ = some u := ⟨_, (Ov.o.cell i).trans (List.getElem?_eq_getElem (by rw [List.length_map]; exact hic))⟩
        have e2a := Ov.o.frozen i
        obtain ⟨w6, hwa⟩ : ∃ w', w5.setCell ⟨gv, i, none⟩ (.int .i64 z1) = w' := ⟨_, rfl⟩
        have ho : Only (fun b => b = gv) w5 w6 := by rw [← hwa]; exact (Only.refl (fun b => b = gv) _).set (p := ⟨gv, i, none⟩) rfl _
        have h9 : BlkC w6 gv 3 ((cs.set i z1).map zv) := by have h1 := Ov.o.set i (.int .i64 z1); rw [hwa, show (Value.int .i64 z1) = zv z1 from rfl, ← List.map_set] at h1; exact h1
        replace Ov := hZ h9
        clear h9
        replace Ow := hZ (Ow.o.only ho (by have := HGv.o; omega))
        have hBn : Below ws.heap.size ws w6 := below_only HS.o ho (fun b e => by have := HGv.o; omega) HS.o.size
        replace HS := hZ hBn
        clear hBn ho
        have c9 : w6.cell? ⟨gv, i, none⟩ = some (.int .i64 z1) := by rw [Ov.o.cell, List.getElem?_map, List.getElem?_set_self hic]; rfl
        obtain ⟨u9b, e1b⟩ : ∃ u, w6.cell? ⟨gw, i, none⟩ = some u := ⟨_, (Ow.o.cell i).trans (List.getElem?_eq_getElem (by rw [List.length_map]; exact hid))⟩
        have e2b := Ow.o.frozen i
        obtain ⟨w7, hwb⟩ : ∃ w', w6.setCell ⟨gw, i, none⟩ (.int .i64 z2) = w' := ⟨_, rfl⟩
        have ho : Only (fun b => b = gw) w6 w7 := by rw [← hwb]; exact (Only.refl (fun b => b = gw) _).set (p := ⟨gw, i, none⟩) rfl _
        have h9 : BlkC w7 gw 3 ((ds.set i z2).map zv) := by have h1 := Ow.o.set i (.int .i64 z2); rw [hwb, show (Value.int .i64 z2) = zv z2 from rfl, ← List.map_set] at h1; exact h1
        replace Ow := hZ h9
        clear h9
        replace Ov := hZ (Ov.o.only ho (by have := HGv.o; omega))
        have hBn : Below ws.heap.size ws w7 := below_only HS.o ho (fun b e => by have := HGv.o; omega) HS.o.size
        replace HS := hZ hBn
        clear hBn ho
        go_wp2_with fail
        try clear hwa
        try clear hwb
        clear c9 e1a e2a e1b e2b
        go_roundw
        case rel => exact ⟨i + 1, r5, cs.set i z1, ds.set i z2, by omega, by omega, by go_num, by first | rw [hr5] | simp [hr5], hZ ⟨by rw [List.length_set]; exact HC.o.1, by rw [List.length_set]; exact HC.o.2.1, fun x hx => by rcases List.mem_or_eq_of_mem_set hx with h9 | h9; exact HC.o.2.2.1 x h9; rw [h9]; exact rz1, fun t => by rw [← Hz2.o]; exact mul_set HC.o.2.2.2 (by rw [HC.o.1, HC.o.2.1]) hic t⟩, Ov, Ow, HS⟩
        case measure => simp [intOf]; omega
       ·skip
        have IV := hZ (IntsOf.lit Ov.o (HC.o.1.trans HMl.o) (by omega))
        have IW := hZ (IntsOf.lit Ow.o (HC.o.2.1.trans HMl.o) (by omega))
        replace HM := hZ (HM.o.blw HS.o)
        replace MK := hZ (MK.o.blw HS.o)
        replace HB := hZ (HB.o.trans (HS.o.mono HB.o.size))
        clear Ov Ow HS
        have HCt : Hid ((∀ x ∈ timesL ds m, x = 0) ↔ ∀ x ∈ timesL cs m, x = 0) := hZ (times_mul (a := f) (by omega) S.o.even HC.o.2.2.2)
        have hcs : ∀ x ∈ cs, -9223372036854775808 ≤ x ∧ x ≤ 9223372036854775807 := fun x hx => by have := HC.o.2.2.1 x hx; omega
        have hds : ∀ x ∈ ds, -9223372036854775808 ≤ x ∧ x ≤ 9223372036854775807 := fun x hx => by
         obtain ⟨j, rfl⟩ := vec_mem hx
         rw [HC.o.2.2.2]
         have h9 : -2 ≤ vec cs j ∧ vec cs j ≤ 2 := by
          rcases Nat.lt_or_ge j cs.length with h8 | h8
          ·rw [vec_at h8]; exact HC.o.2.2.1 _ (List.getElem_mem _)
          ·rw [vec_out h8]; omega
         rcases rf with e | e <;> rw [e] <;> omega
        have Hcs := hZ hcs
        have Hds := hZ hds
        clear hcs hds
        go_wp2_with fail
        refine (rtimes_any w5 _ _ cs m 2 60 HM.o IV.o HC.o.1 S.o.even (by have := HRows.o; omega) (by have := S.o.cols; omega) (fun x hx => by have := HC.o.2.2.1 x hx; omega) S.o.ent (by have := HRows.o; omega)).mono ?_
        rintro e w6 ⟨hB, ut, rfl, hu⟩
        have HT' := hZ hu
        clear hu
        replace IV := hZ (IV.o.blw hB)
        replace IW := hZ (IW.o.blw hB)
        replace HM := hZ (HM.o.blw hB)
        replace MK := hZ (MK.o.blw hB)
        replace HB := bT HB hB
        clear hB
        have HTm := HT'
        clear HT'
        go_wp2_with fail
        refine (zero_any w6 _ (timesL cs m) HTm.o).mono ?_
        rintro e w9 ⟨hw9, t0, rfl, ht0⟩
        replace hw9 := hw9.symm
        subst hw9
        have Ht0 := hZ ht0
        clear ht0
        go_wp2_with fail
        refine (in_any w6 _ _ H2 cs MK.o IV.o (fit_top HT2.o) Hcs.o).mono ?_
        rintro e w7 ⟨hB, tb, rfl, htb⟩
        obtain rfl : tb = t0 := Bool.eq_iff_iff.2 (htb.trans ((ker_in (by have := HRows.o; omega) (by have := K2.o.2.2; have := HRows.o; omega) S.o.even K2.o.2.1 K2.o.1 HC.o.1).trans Ht0.o.symm))
        clear htb
        replace IV := hZ (IV.o.blw hB)
        replace IW := hZ (IW.o.blw hB)
        replace HM := hZ (HM.o.blw hB)
        replace MK := hZ (MK.o.blw hB)
        replace HTm := hZ (HTm.o.blw hB)
        replace HB := bT HB hB
        clear hB
        go_wp2_with fail
        refine (in_any w7 _ _ H2 ds MK.o IW.o (fit_top HT2.o) Hds.o).mono ?_
        rintro e w8 ⟨hB, tb2, rfl, htb⟩
        obtain rfl : tb2 = tb := Bool.eq_iff_iff.2 (htb.trans ((ker_in (by have := HRows.o; omega) (by have := K2.o.2.2; have := HRows.o; omega) S.o.even K2.o.2.1 K2.o.1 HC.o.2.1).trans (HCt.o.trans Ht0.o.symm)))
        clear htb
        replace IV := hZ (IV.o.blw hB)
        replace IW := hZ (IW.o.blw hB)
        replace HM := hZ (HM.o.blw hB)
        replace MK := hZ (MK.o.blw hB)
        replace HTm := hZ (HTm.o.blw hB)
        replace HB := bT HB hB
        clear hB
        go_wp2_with fail
        go_roundw
        case rel => exact ⟨n + 1, by omega, by go_num, HM, MK, HB⟩
        case measure => simp [intOf]; omega
     ·skip
      obtain rfl : n = tot := by omega
      go_wp2_with fail
      refine (lives_any w3).mono ?_
      rintro e w4 ⟨rfl, hB⟩
      replace HM := hZ (HM.o.blw hB)
      replace MK := hZ (MK.o.blw hB)
      replace HB := bT HB hB
      clear hB
      go_wp2_with fail
      go_ret
      exact ⟨rfl, HB.o⟩
end Go.Proofs.Ytlmbebbdamgfpaa
