/- the reference's integers: plus. Not finished. -/
import Derived.Test.YtgfgjnkndfgdiaaDoorR5Comp
namespace Go.Proofs.YtgfgjnkndfgdiaaDoor
open Go.RowKit

/-- a step of the sum -/
theorem plus_step (A B acc : List Nat) (i cy tot : Nat) (hl : acc.length = i) (hv : val T4 acc + T4 ^ i * (cy + val T4 (A.drop i) + val T4 (B.drop i)) = tot) (hA : Low T4 A) (hB : Low T4 B) (hcy : cy ≤ 1) :
    let x := A.getD i 0 + B.getD i 0 + cy
    x ≤ 19999 ∧ val T4 (acc ++ [x % T4]) + T4 ^ (i + 1) * (x / T4 + val T4 (A.drop (i + 1)) + val T4 (B.drop (i + 1))) = tot := by
  intro x
  have hd : ∀ L : List Nat, Low T4 L → L.getD i 0 < T4 ∧ val T4 (L.drop i) = L.getD i 0 + T4 * val T4 (L.drop (i + 1)) := by
    intro L hL
    by_cases h : i < L.length
    · have e : L.getD i 0 = L[i] := by simp [List.getD, h]
      rw [e, List.drop_eq_getElem_cons h]
      exact ⟨hL _ (List.getElem_mem h), rfl⟩
    · have e : L.getD i 0 = 0 := by simp [List.getD, h]
      rw [e, List.drop_of_length_le (by omega), List.drop_of_length_le (by omega)]
      exact ⟨by decide, rfl⟩
  obtain ⟨a1, a2⟩ := hd A hA
  obtain ⟨b1, b2⟩ := hd B hB
  have h10 : T4 = 10000 := rfl
  refine ⟨by show A.getD i 0 + B.getD i 0 + cy ≤ 19999; omega, ?_⟩
  rw [a2, b2] at hv
  rw [val_append, hl, ← hv, Nat.pow_succ]
  have hx : x = T4 * (x / T4) + x % T4 := (Nat.div_add_mod x T4).symm
  have hxe : A.getD i 0 + B.getD i 0 + cy = x := rfl
  have h1 : val T4 [x % T4] = x % T4 := by simp [val]
  rw [h1]
  generalize T4 ^ i = P
  generalize val T4 (A.drop (i + 1)) = u at *
  generalize val T4 (B.drop (i + 1)) = v at *
  generalize A.getD i 0 = p at *
  generalize B.getD i 0 = q at *
  generalize x / T4 = d at *
  generalize x % T4 = r at *
  clear hv hd
  have : cy + (p + T4 * u) + (q + T4 * v) = r + T4 * (d + u + v) := by rw [Nat.mul_add, Nat.mul_add]; omega
  rw [this]
  generalize d + u + v = S
  rw [Nat.mul_add P r, Nat.mul_assoc, Nat.add_assoc]

set_option maxRecDepth 100000 in
set_option maxHeartbeats 1000000 in
theorem rplus_any (va vb : Value) (m n : Nat) (w : World) (ha : DigAt w va m) (hb : DigAt w vb n) (hl1 : (digs T4 m).length ≤ 1048576) (hl2 : (digs T4 n).length ≤ 1048576) :
    Calls Tryd.prog 61 #[va, vb] w fun e w' => (∃ v L, e = .returned v ∧ RowAt .i64 w' v L ∧ Low T4 L ∧ val T4 L = m + n ∧ L.length ≤ 2097153) ∧ Below w.heap.size w w' := by
  obtain ⟨i0, hi, hz0, hz1, hz2⟩ := info_parts infoInt
  have Hi := Lib.hid hi
  have Hz0 := Lib.hid hz0
  have Hz1 := Lib.hid hz1
  have Hz2 := Lib.hid hz2
  clear hi hz0 hz1 hz2
  have HA := Lib.hid ha
  have HBb := Lib.hid hb
  obtain ⟨a, ca, rfl, h1, h2, -⟩ := ha
  obtain ⟨b, cb, rfl, h3, h4, -⟩ := hb
  have Hat1 := Lib.hid (fun w' (hb : Below w.heap.size w w') i hi => at_any _ (digs T4 m) w' (RowAt.below HA.out (Nat.le_refl _) hb) (by omega) i hi)
  have Hat2 := Lib.hid (fun w' (hb : Below w.heap.size w w') i hi => at_any _ (digs T4 n) w' (RowAt.below HBb.out (Nat.le_refl _) hb) (by omega) i hi)
  have HLA := Lib.hid (digs_low T4 t4_two m)
  have HLB := Lib.hid (digs_low T4 t4_two n)
  have Htot : Hid (val T4 ([] : List Nat) + T4 ^ 0 * (0 + val T4 ((digs T4 m).drop 0) + val T4 ((digs T4 n).drop 0)) = m + n) := Lib.hid (by
    rw [List.drop_zero, List.drop_zero, val_digs T4 t4_two, val_digs T4 t4_two]
    show 0 + 1 * (0 + m + n) = m + n
    omega)
  generalize digs T4 m = A at *
  generalize digs T4 n = B at *
  generalize hNA : A.length = NA at *
  generalize hNB : B.length = NB at *
  have HNA := Lib.hid hNA
  have HNB := Lib.hid hNB
  clear HA HBb hNA hNB
  go_enter Tryd.func61, Tryd.ntmps61
  go_wp2
  go_loopw [5, 6, 7] (fun ov cv iv7 wr => ∃ (acc : List Nat) (i cy : Nat) (ga : Option Addr) (gc : Nat), iv7 = .int .i64 (i : Int) ∧ cv = .int .i64 (cy : Int) ∧ ov = .slice ga acc.length gc ∧ Hid (acc.length = i) ∧ cy ≤ 1 ∧ i ≤ NA + NB + 1 ∧ (i ≤ NA + NB ∨ cy = 0) ∧ Hid (Low T4 acc) ∧ Hid (val T4 acc + T4 ^ i * (cy + val T4 (A.drop i) + val T4 (B.drop i)) = m + n) ∧ Hid (wr.ownsRow w.heap.size 3 1 (.slice ga acc.length gc) acc.length (acc.map (iv .i64))) ∧ Hid (Below w.heap.size w wr)) (fun _ _ v _ => NA + NB + 2 - (cntV v - 1))
  case atStart => exact ⟨[], 0, 0, none, 0, rfl, rfl, rfl, Lib.hid rfl, by omega, by omega, by omega, Lib.hid (fun x hx => by cases hx), Htot, Lib.hid (World.ownsRow_nil _ _ _ _), Lib.hid (Below.refl _ _)⟩
  case round =>
    obtain ⟨acc, i, cy, ga, gc, rfl, rfl, rfl, hai, hcy, hil, hor, hlow, hval, hown, hB⟩ := hrel
    have hal := hai.out
    have hgc : gc ≤ 9223372036854775807 := by
      rcases hown.out.2 with ⟨hv, _⟩ | ⟨_, _, _, hv, _, _, _, h3, _⟩
      · injection hv with _ _ e; omega
      · injection hv with _ _ e; unfold maxLen at h3; omega
    have hal2 : acc.length ≤ 2097153 := by omega
    have hzr := hB.out.size
    clear hal
    by_cases hmore : i < NA
    · have Hps := Lib.hid (plus_step A B acc i cy (m + n) hai.out hval.out HLA.out HLB.out hcy)
      obtain ⟨x1, hx1⟩ : ∃ x1, A.getD i 0 = x1 := ⟨_, rfl⟩
      obtain ⟨x2, hx2⟩ : ∃ x2, B.getD i 0 = x2 := ⟨_, rfl⟩
      have Hc1 := Lib.hid (Hat1.out wr hB.out i (by omega))
      have Hc2 := Lib.hid (Hat2.out wr hB.out i (by omega))
      rw [hx1] at Hc1 Hps
      rw [hx2] at Hc2 Hps
      have hx := Hps.out.1
      obtain ⟨k, hk⟩ : ∃ k, (x1 + x2 + cy) % T4 = k := ⟨_, rfl⟩
      obtain ⟨q, hq⟩ : ∃ q, (x1 + x2 + cy) / T4 = q := ⟨_, rfl⟩
      have hk' : (x1 + x2 + cy) % 10000 = k := hk
      have hq' : (x1 + x2 + cy) / 10000 = q := hq
      have hkI : ((x1 : Int) + (x2 : Int) + (cy : Int)) % 10000 = (k : Int) := by omega
      have hqI : ((x1 : Int) + (x2 : Int) + (cy : Int)) / 10000 = (q : Int) := by omega
      have hkl : k < 10000 := by omega
      have hq1 : q ≤ 1 := by omega
      have Hv2 := Hps.out.2
      rw [hk, hq] at Hv2
      have Hv := Lib.hid Hv2
      clear Hv2 hk hq hk' hq' hx1 hx2
      go_wp2_with fail
      refine Hc1.out.mono ?_
      rintro e w7 ⟨rfl, rfl⟩
      go_wp2_with fail
      refine Hc2.out.mono ?_
      rintro e w8 ⟨rfl, rfl⟩
      go_wp2_with (at_builtin; refine wpList_append_own _ rfl _ _ 22 rfl w.heap.size 3 i0 _ 1 8 Tryd.underlying22 Hi.out Hz0.out Hz1.out Hz2.out rfl (by decide) _ _ _ rfl (hown.out.alloc _) ⟨w8.heap.size, 0, none⟩ 1 1 [iv .i64 k] rfl rfl (cell_one_new _ _ _) (by simp [Value.oneCell', iv]) (by unfold maxLen; omega) (by omega) (by simp; omega) ?_)
      intro v5 w5 hown5 hgrow _
      obtain ⟨g5, cap5, hv5, _⟩ := hown5.form (by omega)
      subst hv5
      have Hown5 : Hid (w5.ownsRow w.heap.size 3 1 (.slice (some ⟨g5, 0, none⟩) (acc ++ [k]).length cap5) (acc ++ [k]).length ((acc ++ [k]).map (iv .i64))) := Lib.hid (by rw [List.length_append, List.map_append]; exact hown5)
      have HB5 := Lib.hid ((hB.out.alloc hB.out.size (.cells #[.int .i64 (k : Int)] 3)).grown hgrow (by simp; have := hB.out.size; omega) (fun k e => (hown.out.lt k e).1))
      clear hown5 hgrow
      go_wp2
      go_roundw
      case rel => exact ⟨acc ++ [k], i + 1, q, some ⟨g5, 0, none⟩, cap5, by simp, by rw [hqI], by simp, Lib.hid (by rw [List.length_append, hai.out]; rfl), hq1, by omega, by omega, Lib.hid (fun y hy => by rcases List.mem_append.1 hy with hy | hy; exact hlow.out y hy; rw [List.mem_singleton.1 hy]; exact hkl), Hv, Hown5, HB5⟩
      case measure => simp [cntV]; omega
    · by_cases hmore2 : i < NB
      · have Hps := Lib.hid (plus_step A B acc i cy (m + n) hai.out hval.out HLA.out HLB.out hcy)
        obtain ⟨x1, hx1⟩ : ∃ x1, A.getD i 0 = x1 := ⟨_, rfl⟩
        obtain ⟨x2, hx2⟩ : ∃ x2, B.getD i 0 = x2 := ⟨_, rfl⟩
        have Hc1 := Lib.hid (Hat1.out wr hB.out i (by omega))
        have Hc2 := Lib.hid (Hat2.out wr hB.out i (by omega))
        rw [hx1] at Hc1 Hps
        rw [hx2] at Hc2 Hps
        have hx := Hps.out.1
        obtain ⟨k, hk⟩ : ∃ k, (x1 + x2 + cy) % T4 = k := ⟨_, rfl⟩
        obtain ⟨q, hq⟩ : ∃ q, (x1 + x2 + cy) / T4 = q := ⟨_, rfl⟩
        have hk' : (x1 + x2 + cy) % 10000 = k := hk
        have hq' : (x1 + x2 + cy) / 10000 = q := hq
        have hkI : ((x1 : Int) + (x2 : Int) + (cy : Int)) % 10000 = (k : Int) := by omega
        have hqI : ((x1 : Int) + (x2 : Int) + (cy : Int)) / 10000 = (q : Int) := by omega
        have hkl : k < 10000 := by omega
        have hq1 : q ≤ 1 := by omega
        have Hv2 := Hps.out.2
        rw [hk, hq] at Hv2
        have Hv := Lib.hid Hv2
        clear Hv2 hk hq hk' hq' hx1 hx2
        go_wp2_with fail
        refine Hc1.out.mono ?_
        rintro e w7 ⟨rfl, rfl⟩
        go_wp2_with fail
        refine Hc2.out.mono ?_
        rintro e w8 ⟨rfl, rfl⟩
        go_wp2_with (at_builtin; refine wpList_append_own _ rfl _ _ 22 rfl w.heap.size 3 i0 _ 1 8 Tryd.underlying22 Hi.out Hz0.out Hz1.out Hz2.out rfl (by decide) _ _ _ rfl (hown.out.alloc _) ⟨w8.heap.size, 0, none⟩ 1 1 [iv .i64 k] rfl rfl (cell_one_new _ _ _) (by simp [Value.oneCell', iv]) (by unfold maxLen; omega) (by omega) (by simp; omega) ?_)
        intro v5 w5 hown5 hgrow _
        obtain ⟨g5, cap5, hv5, _⟩ := hown5.form (by omega)
        subst hv5
        have Hown5 : Hid (w5.ownsRow w.heap.size 3 1 (.slice (some ⟨g5, 0, none⟩) (acc ++ [k]).length cap5) (acc ++ [k]).length ((acc ++ [k]).map (iv .i64))) := Lib.hid (by rw [List.length_append, List.map_append]; exact hown5)
        have HB5 := Lib.hid ((hB.out.alloc hB.out.size (.cells #[.int .i64 (k : Int)] 3)).grown hgrow (by simp; have := hB.out.size; omega) (fun k e => (hown.out.lt k e).1))
        clear hown5 hgrow
        go_wp2
        go_roundw
        case rel => exact ⟨acc ++ [k], i + 1, q, some ⟨g5, 0, none⟩, cap5, by simp, by rw [hqI], by simp, Lib.hid (by rw [List.length_append, hai.out]; rfl), hq1, by omega, by omega, Lib.hid (fun y hy => by rcases List.mem_append.1 hy with hy | hy; exact hlow.out y hy; rw [List.mem_singleton.1 hy]; exact hkl), Hv, Hown5, HB5⟩
        case measure => simp [cntV]; omega
      · skip
        by_cases hcy1 : 0 < cy
        · have Hps := Lib.hid (plus_step A B acc i cy (m + n) hai.out hval.out HLA.out HLB.out hcy)
          obtain ⟨x1, hx1⟩ : ∃ x1, A.getD i 0 = x1 := ⟨_, rfl⟩
          obtain ⟨x2, hx2⟩ : ∃ x2, B.getD i 0 = x2 := ⟨_, rfl⟩
          have Hc1 := Lib.hid (Hat1.out wr hB.out i (by omega))
          have Hc2 := Lib.hid (Hat2.out wr hB.out i (by omega))
          rw [hx1] at Hc1 Hps
          rw [hx2] at Hc2 Hps
          have hx := Hps.out.1
          obtain ⟨k, hk⟩ : ∃ k, (x1 + x2 + cy) % T4 = k := ⟨_, rfl⟩
          obtain ⟨q, hq⟩ : ∃ q, (x1 + x2 + cy) / T4 = q := ⟨_, rfl⟩
          have hk' : (x1 + x2 + cy) % 10000 = k := hk
          have hq' : (x1 + x2 + cy) / 10000 = q := hq
          have hkI : ((x1 : Int) + (x2 : Int) + (cy : Int)) % 10000 = (k : Int) := by omega
          have hqI : ((x1 : Int) + (x2 : Int) + (cy : Int)) / 10000 = (q : Int) := by omega
          have hkl : k < 10000 := by omega
          have hq1 : q ≤ 1 := by omega
          have Hv2 := Hps.out.2
          rw [hk, hq] at Hv2
          have Hv := Lib.hid Hv2
          have hx1z : x1 = 0 := by rw [← hx1]; simp [List.getD, List.getElem?_eq_none (show A.length ≤ i by rw [HNA.out]; omega)]
          have hx2z : x2 = 0 := by rw [← hx2]; simp [List.getD, List.getElem?_eq_none (show B.length ≤ i by rw [HNB.out]; omega)]
          have hq0 : q = 0 := by omega
          have Hq0 := Lib.hid hq0
          clear Hv2 hk hq hk' hq' hx1 hx2 hx1z hx2z hq0
          go_wp2_with fail
          refine Hc1.out.mono ?_
          rintro e w7 ⟨rfl, rfl⟩
          go_wp2_with fail
          refine Hc2.out.mono ?_
          rintro e w8 ⟨rfl, rfl⟩
          go_wp2_with (at_builtin; refine wpList_append_own _ rfl _ _ 22 rfl w.heap.size 3 i0 _ 1 8 Tryd.underlying22 Hi.out Hz0.out Hz1.out Hz2.out rfl (by decide) _ _ _ rfl (hown.out.alloc _) ⟨w8.heap.size, 0, none⟩ 1 1 [iv .i64 k] rfl rfl (cell_one_new _ _ _) (by simp [Value.oneCell', iv]) (by unfold maxLen; omega) (by omega) (by simp; omega) ?_)
          intro v5 w5 hown5 hgrow _
          obtain ⟨g5, cap5, hv5, _⟩ := hown5.form (by omega)
          subst hv5
          have Hown5 : Hid (w5.ownsRow w.heap.size 3 1 (.slice (some ⟨g5, 0, none⟩) (acc ++ [k]).length cap5) (acc ++ [k]).length ((acc ++ [k]).map (iv .i64))) := Lib.hid (by rw [List.length_append, List.map_append]; exact hown5)
          have HB5 := Lib.hid ((hB.out.alloc hB.out.size (.cells #[.int .i64 (k : Int)] 3)).grown hgrow (by simp; have := hB.out.size; omega) (fun k e => (hown.out.lt k e).1))
          clear hown5 hgrow
          go_wp2
          go_roundw
          case rel => exact ⟨acc ++ [k], i + 1, q, some ⟨g5, 0, none⟩, cap5, by simp, by rw [hqI], by simp, Lib.hid (by rw [List.length_append, hai.out]; rfl), hq1, by omega, .inr Hq0.out, Lib.hid (fun y hy => by rcases List.mem_append.1 hy with hy | hy; exact hlow.out y hy; rw [List.mem_singleton.1 hy]; exact hkl), Hv, Hown5, HB5⟩
          case measure => simp [cntV]; omega
        · obtain rfl : cy = 0 := by omega
          go_wp2
          go_ret
          refine ⟨⟨_, rfl, acc, RowAt.of_owns hown.out rfl, hlow.out, ?_, by omega⟩, hB.out⟩
          have h9 := hval.out
          rw [List.drop_of_length_le (by rw [HNA.out]; omega), List.drop_of_length_le (by rw [HNB.out]; omega)] at h9
          rw [← h9]
          simp [val]

end Go.Proofs.YtgfgjnkndfgdiaaDoor
