/- worldmintref06.Times. -/
import Derived.Test.YtlmbebbdamgfpaaQULIsN
import Derived.Test.YtlmbebbdamgfpaaQULLive
import Derived.Test.YtlmbebbdamgfpaaQULFull
import Derived.Test.YtlmbebbdamgfpaaQULKer
set_option linter.unusedVariables false
set_option linter.unusedSimpArgs false
set_option linter.unusedVariables false
set_option linter.unusedSimpArgs false
namespace Go.Proofs.Ytlmbebbdamgfpaa
open Go.RowKit

/-- the sum of v[i] times row i -/
def timesL (v : List Int) (m : List (List Int)) : List Int := (List.range (colsOf m)).map (fun k => extE v m m.length k)
theorem timesL_len (v : List Int) (m : List (List Int)) : (timesL v m).length = colsOf m := by simp [timesL]
/-- behind i rows, k entries of the next -/
def mixL (v : List Int) (m : List (List Int)) (i k : Nat) : List Int := (List.range (colsOf m)).map (fun t => extE v m (if t < k then i + 1 else i) t)
theorem mixL_len (v : List Int) (m : List (List Int)) (i k : Nat) : (mixL v m i k).length = colsOf m := by simp [mixL]
theorem mixL_at (v : List Int) (m : List (List Int)) (i k t : Nat) (h : t < colsOf m) : (mixL v m i k)[t]'(by rw [mixL_len]; exact h) = extE v m (if t < k then i + 1 else i) t := by simp [mixL]
theorem mixL_zero (v : List Int) (m : List (List Int)) : mixL v m 0 0 = List.replicate (colsOf m) 0 := by
 refine List.ext_getElem (by simp [mixL_len]) (fun t h1 h2 => ?_)
 rw [mixL_len] at h1
 rw [mixL_at v m 0 0 t h1, if_neg (by omega), extE_zero]
 simp
theorem mixL_next (v : List Int) (m : List (List Int)) (i : Nat) : mixL v m i (colsOf m) = mixL v m (i + 1) 0 := by
 refine List.ext_getElem (by simp [mixL_len]) (fun t h1 h2 => ?_)
 rw [mixL_len] at h1
 rw [mixL_at v m _ _ t h1, mixL_at v m _ _ t h1, if_pos h1, if_neg (by omega)]
theorem mixL_done (v : List Int) (m : List (List Int)) : mixL v m m.length 0 = timesL v m := by
 refine List.ext_getElem (by simp [mixL_len, timesL_len]) (fun t h1 h2 => ?_)
 rw [mixL_len] at h1
 rw [mixL_at v m _ _ t h1, if_neg (by omega)]
 simp [timesL]
theorem mixL_step (v : List Int) (m : List (List Int)) (i k : Nat) (hk : k < colsOf m) : (mixL v m i k).set k (extE v m (i + 1) k) = mixL v m i (k + 1) := by
 refine List.ext_getElem (by simp [mixL_len]) (fun t h1 h2 => ?_)
 rw [mixL_len] at h2
 rw [List.getElem_set]
 by_cases e : k = t
 ·subst e
  rw [if_pos rfl, mixL_at v m _ _ k h2, if_pos (by omega)]
 ·rw [if_neg e, mixL_at v m _ _ t h2, mixL_at v m _ _ t h2]
  by_cases e2 : t < k
  ·rw [if_pos e2, if_pos (by omega)]
  ·rw [if_neg e2, if_neg (by omega)]
theorem extE_leV {v : List Int} {m : List (List Int)} {V X : Nat} (hV : ∀ x ∈ v, x.natAbs ≤ V) (hX : ∀ r ∈ m, ∀ x ∈ r, x.natAbs ≤ X) (i k : Nat) (hi : i ≤ m.length) : (extE v m i k).natAbs ≤ i * (V * X) := by
 have h := ext_le V X (vec v) k ((m.take i).map vec) 0 (fun t => ?_) (fun r hr => ?_)
 ·rw [List.length_map, List.length_take, Nat.min_eq_left hi] at h
  exact h
 ·rcases Nat.lt_or_ge t v.length with ht | ht
  ·rw [vec_at ht]; exact hV _ (List.getElem_mem _)
  ·rw [vec_out ht]; simp
 ·refine vec_le' (M := m) hX r ?_ k
  obtain ⟨a, ha, rfl⟩ := List.mem_map.1 hr
  exact List.mem_map.2 ⟨a, List.mem_of_mem_take ha, rfl⟩

set_option maxRecDepth 100000 in
set_option maxHeartbeats 8000000 in
theorem rtimes_any (w0 : World) (vv vm : Value) (v : List Int) (m : List (List Int)) (V X : Nat) (h : MatAt w0 vm m) (hv : IntsOf w0 vv v) (hl : v.length = m.length) (hc : ∀ r ∈ m, r.length = colsOf m) (hm : m.length ≤ 1000) (hn : colsOf m ≤ 1000) (hV : ∀ x ∈ v, x.natAbs ≤ V) (hX : ∀ r ∈ m, ∀ x ∈ r, x.natAbs ≤ X) (hb : m.length * (V * X) ≤ 4611686018427387904) :
 Calls Try.prog 22 #[vv, vm] w0 fun e w' => Below w0.heap.size w0 w' ∧ ∃ u, e = .returned u ∧ IntsOf w' u (timesL v m) := by
 have H := hZ h
 have HV := hZ hv
 have HB := hZ (Below.refl w0.heap.size w0)
 have HC := hZ hc
 have HE := hZ (fun i k (hi : i ≤ m.length) => Nat.le_trans (extE_leV hV hX i k hi) (Nat.le_trans (Nat.mul_le_mul_right _ hi) hb))
 have HP := hZ (fun (i : Nat) (hi : i < m.length) => Nat.le_trans (Nat.le_mul_of_pos_left (V * X) (show 0 < m.length by omega)) hb)
 have HVX := hZ (And.intro hV hX)
 obtain ⟨av, cv, rfl, q1, q2⟩ := h.form
 obtain ⟨bv, dv, rfl, q3, q4⟩ := SliceOf.form hv
 clear h hv hc hV hX
 obtain ⟨n, hnn⟩ : ∃ n, colsOf m = n := ⟨_, rfl⟩
 have Hn := hZ hnn
 rw [hnn] at hn
 clear hnn
 by_cases h0 : m.length = 0
 ·have hv0 : v.length = 0 := by omega
  have hm0 : m = [] := List.eq_nil_of_length_eq_zero h0
  have z1 : ¬ (0 : Int) < (m.length : Int) := by omega
  have z2 : ¬ 0 < m.length := by omega
  have z3 : ¬ (0 : Int) < (v.length : Int) := by omega
  have hn0 : n = 0 := by rw [← Hn.o, hm0]; rfl
  subst hn0
  go_enter Try.func22, Try.ntmps22
  go_wp2_with (at_make; refine wpList_make_ints rfl rfl 0 rfl rfl rfl rfl (by omega) ?_)
  intro w1 h_9 hB hlt9
  go_wp2_with fail
  go_loopw [7] (fun i wr => i = .int .i64 0 ∧ w1 = wr) (fun i _ => 0)
  case atStart => exact ⟨rfl, rfl⟩
  case round =>
   obtain ⟨rfl, rfl⟩ := hrel
   go_wp2_with fail
   go_ret
   refine ⟨hB, _, rfl, ?_⟩
   have h9 := IntsOf.lit (l := []) (n := 0) (by simpa using h_9) rfl (by omega)
   rw [← mixL_done, hm0]
   simpa [mixL, colsOf] using h9
 have h1 : 0 < m.length := by omega
 obtain ⟨bb, capb, a0, c0, hvb, hbb, n0, -, g1, g2⟩ := H.o.at_ 0 h1
 injection hvb with f1 f2 f3
 subst f1
 clear f2 f3
 have Hbb := hZ hbb
 have e0 : (m[0]'h1).length = n := by rw [HC.o _ (List.getElem_mem _), Hn.o]
 rw [e0] at n0
 clear e0
 have z1 : (0 : Int) < (m.length : Int) := by omega
 go_enter Try.func22, Try.ntmps22
 go_wp2_with (at_make; refine wpList_make_ints rfl rfl (n) rfl rfl rfl rfl (by omega) ?_)
 intro w1 h_9 hB hlt9
 obtain ⟨g, hb⟩ : ∃ b, w0.heap.size = b := ⟨_, rfl⟩
 rw [hb] at h_9 ⊢
 have Oc' := hZ h_9
 have hge_g : Hid (w0.heap.size ≤ g) := hZ (Nat.le_of_eq hb)
 have hlt_g : Hid (g < w1.heap.size) := hZ (by rw [← hb]; exact hlt9)
 clear h_9 hb hlt9
 replace HB := bT HB hB
 clear hB
 have Oc := Oc'
 clear Oc'
 clear n0
 go_wp2_with fail
 replace Oc : Hid (BlkC w1 g 3 ((mixL v m 0 0).map zv)) := hZ (by have h9 := Oc.o; rw [mixL_zero, Hn.o]; simpa [zv] using h9)
 have HGg : Hid (w0.heap.size ≤ g) := hge_g
 clear hge_g hlt_g
 go_loopw [7] (fun i wr => ∃ j : Nat, j ≤ m.length ∧ i = .int .i64 j ∧ Hid (BlkC wr g 3 ((mixL v m j 0).map zv)) ∧ Hid (Below w0.heap.size w0 wr)) (fun i _ => m.length - (intOf i).toNat)
 case atStart => exact ⟨0, by omega, rfl, Oc, HB⟩
 case round =>
  clear Oc HB
  obtain ⟨j, hj, rfl, Oc, HB⟩ := hrel
  obtain ⟨w1, rfl⟩ : ∃ w' : World, w' = wr := ⟨_, rfl⟩
  by_cases hlt : j < m.length
  ·skip
   have j1 : (0 : Int) ≤ (j : Int) := by omega
   have j2 : (j : Int) < (m.length : Int) := by omega
   have j3 : (j : Int) < (v.length : Int) := by omega
   have j4 : j < v.length := by omega
   obtain ⟨bb2, capb2, ar, cr, hvb, -, n1, HR, g1, g2⟩ := H.o.at_ j hlt
   injection hvb with f1 f2 f3
   injection f1 with f1
   injection f1 with f1
   subst f1
   clear f2 f3
   have hrn : (m[j]'hlt).length = n := by rw [HC.o _ (List.getElem_mem _), Hn.o]
   obtain ⟨r, hr⟩ : ∃ r, m[j]'hlt = r := ⟨_, rfl⟩
   have Hr := hZ hr
   rw [hr] at n1 HR g1 hrn
   clear hr
   rw [hrn] at n1
   obtain ⟨bv2, capv, hvv, hbv, v1⟩ := HV.o.at_ j j4
   injection hvv with f1 f2 f3
   subst f1
   clear f2 f3
   obtain ⟨x, hx⟩ : ∃ x, v[j]'j4 = x := ⟨_, rfl⟩
   have Hx := hZ hx
   rw [hx] at v1
   clear hx
   have HN1 := hZ n1
   have HV1 := hZ v1
   have Hbv := hZ hbv
   have HRr := hZ HR
   clear n1 v1 HR
   go_wp2_with fail
   go_loopw [8] (fun i wr => ∃ k : Nat, k ≤ n ∧ i = .int .i64 k ∧ Hid (BlkC wr g 3 ((mixL v m j k).map zv)) ∧ Hid (Below w0.heap.size w0 wr)) (fun i _ => n - (intOf i).toNat)
   case atStart => exact ⟨0, by omega, rfl, Oc, HB⟩
   case round =>
    clear Oc HB
    obtain ⟨k, hk, rfl, Oc, HB⟩ := hrel
    obtain ⟨w1, rfl⟩ : ∃ w' : World, w' = wr := ⟨_, rfl⟩
    by_cases hkc : k < n
    ·skip
     have k1 : (0 : Int) ≤ (k : Int) := by omega
     have k2 : (k : Int) < (n : Int) := by omega
     have k3 : (k : Int) < (r.length : Int) := by omega
     obtain ⟨br, rfl, -, hbr, y1⟩ := ints_vec HRr.o k (by omega)
     obtain ⟨y, hy⟩ : ∃ y, vec r k = y := ⟨_, rfl⟩
     have Hy := hZ hy
     rw [hy] at y1
     clear hy
     obtain ⟨s0, hs0⟩ : ∃ s, extE v m j k = s := ⟨_, rfl⟩
     obtain ⟨p0, hp0⟩ : ∃ p, x * y = p := ⟨_, rfl⟩
     obtain ⟨s1, hs1⟩ : ∃ s, s0 + p0 = s := ⟨_, rfl⟩
     have Hs1 : Hid (extE v m (j + 1) k = s1) := hZ (by rw [extE_succ v m j k hlt, hs0, Hr.o, Hy.o, vec_at j4, Hx.o, hp0, hs1])
     have Hs0 : Hid (∃ h : k < (mixL v m j k).length, (mixL v m j k)[k] = s0) := hZ ⟨by rw [mixL_len, Hn.o]; exact hkc, by rw [mixL_at v m j k k (by rw [Hn.o]; exact hkc), if_neg (by omega), hs0]⟩
     have b1 := HE.o (j + 1) k hlt
     rw [Hs1.o] at b1
     have b2 : p0.natAbs ≤ 4611686018427387904 := by
      have e1 := HVX.o.1 _ (List.getElem_mem j4)
      have e2 := HVX.o.2 _ (List.getElem_mem hlt) _ (List.getElem_mem (show k < (m[j]'hlt).length by rw [Hr.o]; omega))
      rw [Hx.o] at e1
      have e3 : ((m[j]'hlt)[k]'(by rw [Hr.o]; omega)) = y := by rw [← vec_at, Hr.o]; exact Hy.o
      rw [e3] at e2
      rw [← hp0, Int.natAbs_mul]
      exact Nat.le_trans (Nat.mul_le_mul e1 e2) (HP.o j hlt)
     have wp0 : IntKind.i64.wrap (x * y) = p0 := by rw [hp0, IntWalk.i64_in _ (by omega)]
     have wp0' : IntKind.i64.wrap p0 = p0 := IntWalk.i64_in _ (by omega)
     have ws1 : IntKind.i64.wrap (s0 + p0) = s1 := by rw [hs1, IntWalk.i64_in _ (by omega)]
     have ws1' : IntKind.i64.wrap s1 = s1 := IntWalk.i64_in _ (by omega)
     have hp0' := hp0
     have hs1' := hs1
     clear hs0 b1 b2 hp0' hs1'
     have HY1 := hZ y1
     have Hbr := hZ hbr
     clear y1
     go_wp2_with fail
     obtain ⟨w2, hwd⟩ : ∃ w', w1.drew = w' := ⟨_, rfl⟩
     have hB := dB hwd
     replace Oc := hZ (Oc.o.blw hB)
     replace HB := bT HB hB
     clear hB
     have HBr : Hid (Only (fun b => False) w2 w2) := hZ (Only.refl _ _)
     refine startL [20] (fun w' => Only (fun b => False) w2 w') (by kernel_rfl) (by rw [hwd]; exact Only.refl _ _) (fun hHeld => ?_)
     rw [hwd] at hHeld ⊢
     clear hwd
     have f0 : w2.cell? ⟨g, k, none⟩ = some (.int .i64 s0) := (Oc.o.cell k).trans (by obtain ⟨h8, h9⟩ := Hs0.o; rw [List.getElem?_map, List.getElem?_eq_getElem h8, h9]; rfl)
     have f1 := (HB.o.cell (p := ⟨bv2, j, none⟩) Hbv.o).trans HV1.o
     have f2 := (HB.o.cell (p := ⟨bb, j, none⟩) Hbb.o).trans HN1.o
     have f3 := (HB.o.cell (p := ⟨br, k, none⟩) Hbr.o).trans HY1.o
     have m0 := Oc.o.lt
     have m1 := Nat.lt_of_lt_of_le Hbv.o HB.o.size
     have m2 := Nat.lt_of_lt_of_le Hbb.o HB.o.size
     have m3 := Nat.lt_of_lt_of_le Hbr.o HB.o.size
     refine pP 0 35 (v := ?_) rfl rfl ?_ ?_
     rotate_left
     ·(intro w; go_simp; first | done | with_reducible rfl)
     simp only [sX1, sX2, sX3]
     refine pP 1 36 (v := ?_) rfl rfl ?_ ?_
     rotate_left
     ·(intro w; go_simp; first | done | with_reducible rfl)
     simp only [sX1, sX2, sX3]
     refine pP 2 37 (v := ?_) rfl rfl ?_ ?_
     rotate_left
     ·(intro w; go_simp; first | done | with_reducible rfl)
     simp only [sX1, sX2, sX3]
     refine pP 3 38 (v := ?_) rfl rfl ?_ ?_
     rotate_left
     ·(intro w; go_simp; first | done | with_reducible rfl)
     simp only [sX1, sX2, sX3]
     refine pP 4 39 (v := ?_) rfl rfl ?_ ?_
     rotate_left
     ·(intro w; go_simp; first | done | with_reducible rfl)
     simp only [sX1, sX2, sX3]
     refine tP 5 40 (v := ?_) rfl rfl ?_ ?_
     rotate_left
     ·(intro w hSw; have x0 := (hSw.cell (p := ⟨g, k, none⟩) (fun h => h) m0).trans f0; go_simp; first | done | with_reducible rfl)
     simp only [sX1, sX2, sX3]
     refine pP 6 41 (v := ?_) rfl rfl ?_ ?_
     rotate_left
     ·(intro w; go_simp; first | done | with_reducible rfl)
     simp only [sX1, sX2, sX3]
     refine pP 7 42 (v := ?_) rfl rfl ?_ ?_
     rotate_left
     ·(intro w; go_simp; first | done | with_reducible rfl)
     simp only [sX1, sX2, sX3]
     refine pP 8 43 (v := ?_) rfl rfl ?_ ?_
     rotate_left
     ·(intro w; go_simp; first | done | with_reducible rfl)
     simp only [sX1, sX2, sX3]
     refine tP 9 44 (v := ?_) rfl rfl ?_ ?_
     rotate_left
     ·(intro w hSw; have x0 := (hSw.cell (p := ⟨bv2, j, none⟩) (fun h => h) m1).trans f1; go_simp; first | done | with_reducible rfl)
     simp only [sX1, sX2, sX3]
     refine pP 10 45 (v := ?_) rfl rfl ?_ ?_
     rotate_left
     ·(intro w; go_simp; first | done | with_reducible rfl)
     simp only [sX1, sX2, sX3]
     refine pP 11 46 (v := ?_) rfl rfl ?_ ?_
     rotate_left
     ·(intro w; go_simp; first | done | with_reducible rfl)
     simp only [sX1, sX2, sX3]
     refine pP 12 47 (v := ?_) rfl rfl ?_ ?_
     rotate_left
     ·(intro w; go_simp; first | done | with_reducible rfl)
     simp only [sX1, sX2, sX3]
     refine tP 13 48 (v := ?_) rfl rfl ?_ ?_
     rotate_left
     ·(intro w hSw; have x0 := (hSw.cell (p := ⟨bb, j, none⟩) (fun h => h) m2).trans f2; go_simp; first | done | with_reducible rfl)
     simp only [sX1, sX2, sX3]
     refine pP 14 49 (v := ?_) rfl rfl ?_ ?_
     rotate_left
     ·(intro w; go_simp; first | done | with_reducible rfl)
     simp only [sX1, sX2, sX3]
     refine pP 15 50 (v := ?_) rfl rfl ?_ ?_
     rotate_left
     ·(intro w; go_simp; first | done | with_reducible rfl)
     simp only [sX1, sX2, sX3]
     refine tP 16 51 (v := ?_) rfl rfl ?_ ?_
     rotate_left
     ·(intro w hSw; have x0 := (hSw.cell (p := ⟨br, k, none⟩) (fun h => h) m3).trans f3; go_simp; first | done | with_reducible rfl)
     simp only [sX1, sX2, sX3]
     refine pP 17 52 (v := ?_) rfl rfl ?_ ?_
     rotate_left
     ·(intro w; go_simp; first | done | with_reducible rfl)
     simp only [sX1, sX2, sX3]
     refine pP 18 53 (v := ?_) rfl rfl ?_ ?_
     rotate_left
     ·(intro w; go_simp; first | done | with_reducible rfl)
     simp only [sX1, sX2, sX3]
     refine pP 19 54 (v := ?_) rfl rfl ?_ ?_
     rotate_left
     ·(intro w; go_simp; first | done | with_reducible rfl)
     simp only [sX1, sX2, sX3]
     clear f0 f1 f2 f3 m0 m1 m2 m3
     obtain ⟨u9, e1⟩ : ∃ u, w2.cell? ⟨g, k, none⟩ = some u := ⟨_, (Oc.o.cell k).trans (List.getElem?_eq_getElem (by rw [List.length_map]; exact Hs0.o.1))⟩
     have e2 := Oc.o.frozen (k)
     obtain ⟨w3, hw⟩ : ∃ w', w2.setCell ⟨g, k, none⟩ (.int .i64 s1) = w' := ⟨_, rfl⟩
     have ho : Only (fun b => b = g) w2 w3 := by rw [← hw]; exact (Only.refl (fun b => b = g) _).set (p := ⟨g, k, none⟩) rfl _
     have hN : ∀ b, b = g → NoInt w2 b := fun b e => e ▸ Oc.o.noInt zv_noInt
     replace Oc := hZ ((by have h1 := Oc.o.set k (.int .i64 s1); rw [hw, show (Value.int .i64 s1) = zv s1 from rfl, ← List.map_set, ← Hs1.o, mixL_step v m j k (by rw [Hn.o]; exact hkc)] at h1; exact h1))
     replace HB := hZ (below_only HB.o ho (fun b e => by have := HGg.o; omega) HB.o.size)
     clear ho hN
     refine lateL 20 (by kernel_rfl) (by decide) rfl (fun K hK => ?_)
     go_simp
     try rw [hw]
     refine hK.out _ _ ?_
     clear hK K
     try simp only [Act.put, sX1, sX2, sX3]
     clear hw e1 e2
     refine doneL (by kernel_rfl) ?_ _
     clear hHeld
     go_wp2_with fail
     go_roundw
     case rel => exact ⟨k + 1, by omega, by go_num, Oc, HB⟩
     case measure => simp [intOf]; omega
    ·skip
     obtain rfl : k = n := by omega
     go_wp2_with fail
     go_roundw
     case rel => exact ⟨j + 1, by omega, by go_num, hZ (by have h9 := Oc.o; rw [← Hn.o, mixL_next] at h9; exact h9), HB⟩
     case measure => simp [intOf]; omega
  ·skip
   obtain rfl : j = m.length := by omega
   have z3 : ¬ (m.length : Int) < (v.length : Int) := by omega
   have z4 : ¬ m.length < v.length := by omega
   go_wp2_with fail
   go_ret
   refine ⟨HB.o, _, rfl, ?_⟩
   have h9 := Oc.o
   rw [mixL_done] at h9
   exact IntsOf.lit h9 (by rw [timesL_len, Hn.o]) hn
end Go.Proofs.Ytlmbebbdamgfpaa
