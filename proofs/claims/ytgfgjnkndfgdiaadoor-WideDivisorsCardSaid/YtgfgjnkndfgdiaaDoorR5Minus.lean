/- the reference's integers: minus. -/
import Derived.Test.YtgfgjnkndfgdiaaDoorR5Plus
namespace Go.Proofs.YtgfgjnkndfgdiaaDoor
open Go.RowKit

theorem getD_low {b : Nat} (hb : 0 < b) (L : List Nat) (hL : Low b L) (i : Nat) : L.getD i 0 < b := by
  by_cases h : i < L.length
  · have e : L.getD i 0 = L[i] := by simp [List.getD, h]
    rw [e]
    exact hL _ (List.getElem_mem h)
  · have e : L.getD i 0 = 0 := by simp [List.getD, h]
    rw [e]
    exact hb

theorem val_take_getD (b : Nat) (L : List Nat) (i : Nat) : val b (L.take (i + 1)) = val b (L.take i) + L.getD i 0 * b ^ i := by
  by_cases h : i < L.length
  · have e : L.getD i 0 = L[i] := by simp [List.getD, h]
    rw [e, val_take_succ b L i h]
  · have e : L.getD i 0 = 0 := by simp [List.getD, h]
    rw [e, List.take_of_length_le (by omega), List.take_of_length_le (by omega)]
    omega

/-- a step of the difference -/
theorem minus_step (A B acc : List Nat) (i br k q : Nat) (hl : acc.length = i) (hv : val T4 acc + val T4 (B.take i) = val T4 (A.take i) + br * T4 ^ i) (hk : k + B.getD i 0 + br = A.getD i 0 + q * 10000) :
    val T4 (acc ++ [k]) + val T4 (B.take (i + 1)) = val T4 (A.take (i + 1)) + q * T4 ^ (i + 1) := by
  rw [val_append, hl, val_take_getD, val_take_getD, Nat.pow_succ]
  have h1 : val T4 [k] = k := by simp [val]
  rw [h1]
  have hk2 : k + B.getD i 0 + br = A.getD i 0 + q * T4 := hk
  generalize T4 ^ i = P at *
  generalize val T4 (A.take i) = u at *
  generalize val T4 (B.take i) = v at *
  generalize A.getD i 0 = p at *
  generalize B.getD i 0 = s at *
  generalize val T4 acc = x at *
  generalize T4 = t at *
  clear hl h1 hk
  have := congrArg (· * P) hk2
  simp only [Nat.add_mul] at this
  rw [Nat.mul_comm P t, ← Nat.mul_assoc, Nat.mul_comm P k]
  omega

theorem minus_done (A B acc : List Nat) (br : Nat) (hl : acc.length = A.length) (hlow : Low T4 acc) (hle : val T4 B ≤ val T4 A) (hBA : B.length ≤ A.length) (hbr : br ≤ 1) (hv : val T4 acc + val T4 (B.take A.length) = val T4 (A.take A.length) + br * T4 ^ A.length) :
    val T4 acc = val T4 A - val T4 B := by
  rw [List.take_of_length_le hBA, List.take_of_length_le (Nat.le_refl _)] at hv
  have h3 := val_lt T4 (by decide) acc hlow
  rw [hl] at h3
  rcases Nat.eq_zero_or_pos br with h | h
  · subst h; omega
  · obtain rfl : br = 1 := by omega
    omega


set_option maxRecDepth 100000 in
set_option maxHeartbeats 1000000 in
theorem rminus_own (va vb : Value) (m n : Nat) (w : World) (ha : DigAt w va m) (hb : DigAt w vb n) (hnm : n ≤ m) (hl1 : (digs T4 m).length ≤ 2097153) :
    Calls Tryd.prog 63 #[va, vb] w fun e w' => (∃ v L, e = .returned v ∧ RowAt .i64 w' v L ∧ Low T4 L ∧ val T4 L = m - n ∧ L.length = (digs T4 m).length ∧ ∀ ad l c, v = .slice (some ad) l c → w.heap.size ≤ ad.block) ∧ Below w.heap.size w w' := by
  obtain ⟨i0, hi, hz0, hz1, hz2⟩ := info_parts infoInt
  have Hi := Lib.hid hi
  have Hz0 := Lib.hid hz0
  have Hz1 := Lib.hid hz1
  have Hz2 := Lib.hid hz2
  clear hi hz0 hz1 hz2
  have HA := Lib.hid ha
  have HBb := Lib.hid hb
  have hl2 := digs_len_mono T4 t4_two n m hnm
  obtain ⟨a, ca, rfl, h1, h2, -⟩ := ha
  obtain ⟨b, cb, rfl, h3, h4, -⟩ := hb
  have Hat1 := Lib.hid (fun w' (hb : Below w.heap.size w w') i hi => at_any _ (digs T4 m) w' (RowAt.below HA.out (Nat.le_refl _) hb) (by omega) i hi)
  have Hat2 := Lib.hid (fun w' (hb : Below w.heap.size w w') i hi => at_any _ (digs T4 n) w' (RowAt.below HBb.out (Nat.le_refl _) hb) (by omega) i hi)
  have HLA := Lib.hid (digs_low T4 t4_two m)
  have HLB := Lib.hid (digs_low T4 t4_two n)
  have Hvm := Lib.hid (val_digs T4 t4_two m)
  have Hvn := Lib.hid (val_digs T4 t4_two n)
  generalize digs T4 m = A at *
  generalize digs T4 n = B at *
  generalize hNA : A.length = NA at *
  generalize hNB : B.length = NB at *
  have HNA := Lib.hid hNA
  have HNB := Lib.hid hNB
  have Hnm := Lib.hid hnm
  clear HA HBb hNA hNB hnm
  go_enter Tryd.func63, Tryd.ntmps63
  go_wp2
  go_loopw [5, 6, 7] (fun ov cv iv7 wr => ∃ (acc : List Nat) (i br : Nat) (ga : Option Addr) (gc : Nat), iv7 = .int .i64 (i : Int) ∧ cv = .int .i64 (br : Int) ∧ ov = .slice ga acc.length gc ∧ Hid (acc.length = i) ∧ br ≤ 1 ∧ i ≤ NA ∧ Hid (Low T4 acc) ∧ Hid (val T4 acc + val T4 (B.take i) = val T4 (A.take i) + br * T4 ^ i) ∧ Hid (wr.ownsRow w.heap.size 3 1 (.slice ga acc.length gc) acc.length (acc.map (iv .i64))) ∧ Hid (Below w.heap.size w wr)) (fun _ _ v _ => NA + 2 - (cntV v - 1))
  case atStart => exact ⟨[], 0, 0, none, 0, rfl, rfl, rfl, Lib.hid rfl, by omega, by omega, Lib.hid (fun x hx => by cases hx), Lib.hid (by simp [val]), Lib.hid (World.ownsRow_nil _ _ _ _), Lib.hid (Below.refl _ _)⟩
  case round =>
    obtain ⟨acc, i, br, ga, gc, rfl, rfl, rfl, hai, hbr, hil, hlow, hval, hown, hB⟩ := hrel
    have hal := hai.out
    have hgc : gc ≤ 9223372036854775807 := by
      rcases hown.out.2 with ⟨hv, _⟩ | ⟨_, _, _, hv, _, _, _, h3, _⟩
      · injection hv with _ _ e; omega
      · injection hv with _ _ e; unfold maxLen at h3; omega
    have hal2 : acc.length ≤ 2097153 := by omega
    have hzr := hB.out.size
    clear hal
    by_cases hmore : i < NA
    · have Hps := Lib.hid (fun k q => minus_step A B acc i br k q hai.out hval.out)
      have hx1l := getD_low (by decide) A HLA.out i
      have hx2l := getD_low (by decide) B HLB.out i
      obtain ⟨x1, hx1⟩ : ∃ x1, A.getD i 0 = x1 := ⟨_, rfl⟩
      obtain ⟨x2, hx2⟩ : ∃ x2, B.getD i 0 = x2 := ⟨_, rfl⟩
      have Hc1 := Lib.hid (Hat1.out wr hB.out i (by omega))
      have Hc2 := Lib.hid (Hat2.out wr hB.out i (by omega))
      rw [hx1] at Hc1 Hps hx1l
      rw [hx2] at Hc2 Hps hx2l
      have hx1m : x1 < 10000 := hx1l
      have hx2m : x2 < 10000 := hx2l
      clear hx1 hx2 hx1l hx2l
      by_cases hlt : x1 < x2 + br
      · obtain ⟨k, hk⟩ : ∃ k, k + x2 + br = x1 + 1 * 10000 := ⟨x1 + 10000 - x2 - br, by omega⟩
        have hkI : (x1 : Int) - (x2 : Int) - (br : Int) + 10000 = (k : Int) := by omega
        have hneg : (x1 : Int) - (x2 : Int) - (br : Int) < 0 := by omega
        have hkl : k < 10000 := by omega
        have Hv := Lib.hid (Hps.out k 1 hk)
        clear hk hlt Hps
        go_wp2_with fail
        refine Hc1.out.mono ?_
        rintro e w7 ⟨rfl, rfl⟩
        go_wp2_with fail
        refine Hc2.out.mono ?_
        rintro e w8 ⟨rfl, rfl⟩
        go_wp2_with (at_builtin; refine wpList_append_own _ rfl _ _ 22 rfl w.heap.size 3 i0 _ 1 8 Tryd.underlying22 Hi.out Hz0.out Hz1.out Hz2.out rfl (by decide) _ _ _ rfl (hown.out.alloc _) ⟨w8.heap.size, 0, none⟩ 1 1 [iv .i64 k] rfl rfl (cell_one_new _ _ _) (by simp [Value.oneCell', iv]) (by unfold maxLen; omega) (by omega) (by simp; omega) ?_)
        intro v5 w5 hown5 hgrow _
        obtain ⟨g5, cap5, hv5, _⟩ := hown5.form (by omega)
        subst hv5
        have Hown5 : Hid (w5.ownsRow w.heap.size 3 1 (.slice (some ⟨g5, 0, none⟩) (acc ++ [k]).length cap5) (acc ++ [k]).length ((acc ++ [k]).map (iv .i64))) := Lib.hid (by rw [List.length_append, List.map_append]; exact hown5)
        have HB5 := Lib.hid ((hB.out.alloc hB.out.size (.cells #[.int .i64 (k : Int)] 3)).grown hgrow (by simp; have := hB.out.size; omega) (fun k e => (hown.out.lt k e).1))
        clear hown5 hgrow
        go_wp2
        go_roundw
        case rel => exact ⟨acc ++ [k], i + 1, 1, some ⟨g5, 0, none⟩, cap5, by simp, rfl, by simp, Lib.hid (by rw [List.length_append, hai.out]; rfl), by omega, by omega, Lib.hid (fun y hy => by rcases List.mem_append.1 hy with hy | hy; exact hlow.out y hy; rw [List.mem_singleton.1 hy]; exact hkl), Hv, Hown5, HB5⟩
        case measure => simp [cntV]; omega
      · obtain ⟨k, hk⟩ : ∃ k, k + x2 + br = x1 + 0 * 10000 := ⟨x1 - x2 - br, by omega⟩
        have hkI : (x1 : Int) - (x2 : Int) - (br : Int) = (k : Int) := by omega
        have hkl : k < 10000 := by omega
        have Hv := Lib.hid (Hps.out k 0 hk)
        clear hk hlt Hps
        go_wp2_with fail
        refine Hc1.out.mono ?_
        rintro e w7 ⟨rfl, rfl⟩
        go_wp2_with fail
        refine Hc2.out.mono ?_
        rintro e w8 ⟨rfl, rfl⟩
        go_wp2_with (at_builtin; refine wpList_append_own _ rfl _ _ 22 rfl w.heap.size 3 i0 _ 1 8 Tryd.underlying22 Hi.out Hz0.out Hz1.out Hz2.out rfl (by decide) _ _ _ rfl (hown.out.alloc _) ⟨w8.heap.size, 0, none⟩ 1 1 [iv .i64 k] rfl rfl (cell_one_new _ _ _) (by simp [Value.oneCell', iv]) (by unfold maxLen; omega) (by omega) (by simp; omega) ?_)
        intro v5 w5 hown5 hgrow _
        obtain ⟨g5, cap5, hv5, _⟩ := hown5.form (by omega)
        subst hv5
        have Hown5 : Hid (w5.ownsRow w.heap.size 3 1 (.slice (some ⟨g5, 0, none⟩) (acc ++ [k]).length cap5) (acc ++ [k]).length ((acc ++ [k]).map (iv .i64))) := Lib.hid (by rw [List.length_append, List.map_append]; exact hown5)
        have HB5 := Lib.hid ((hB.out.alloc hB.out.size (.cells #[.int .i64 (k : Int)] 3)).grown hgrow (by simp; have := hB.out.size; omega) (fun k e => (hown.out.lt k e).1))
        clear hown5 hgrow
        go_wp2
        go_roundw
        case rel => exact ⟨acc ++ [k], i + 1, 0, some ⟨g5, 0, none⟩, cap5, by simp, rfl, by simp, Lib.hid (by rw [List.length_append, hai.out]; rfl), by omega, by omega, Lib.hid (fun y hy => by rcases List.mem_append.1 hy with hy | hy; exact hlow.out y hy; rw [List.mem_singleton.1 hy]; exact hkl), Hv, Hown5, HB5⟩
        case measure => simp [cntV]; omega
    · obtain rfl : i = NA := by omega
      go_wp2
      go_ret
      refine ⟨⟨_, acc, rfl, RowAt.of_owns hown.out rfl, hlow.out, ?_, hai.out, fun ad l c e => ?_⟩, hB.out⟩
      rotate_left
      · refine (hown.out.lt ad.block ?_).1
        have e' : Value.slice ga acc.length gc = .slice (some ad) l c := e
        rw [e']
        rfl
      rw [← Hvm.out, ← Hvn.out]
      refine minus_done A B acc br (by rw [HNA.out]; exact hai.out) hlow.out (by rw [Hvm.out, Hvn.out]; exact Hnm.out) (by rw [HNA.out, HNB.out]; exact hl2) hbr ?_
      rw [HNA.out]
      exact hval.out

theorem rminus_any (va vb : Value) (m n : Nat) (w : World) (ha : DigAt w va m) (hb : DigAt w vb n) (hnm : n ≤ m) (hl1 : (digs T4 m).length ≤ 2097153) :
    Calls Tryd.prog 63 #[va, vb] w fun e w' => (∃ v L, e = .returned v ∧ RowAt .i64 w' v L ∧ Low T4 L ∧ val T4 L = m - n ∧ L.length = (digs T4 m).length) ∧ Below w.heap.size w w' :=
  (rminus_own va vb m n w ha hb hnm hl1).mono (by rintro e w' ⟨⟨v, L, rfl, h1, h2, h3, h4, -⟩, hB⟩; exact ⟨⟨v, L, rfl, h1, h2, h3, h4⟩, hB⟩)

end Go.Proofs.YtgfgjnkndfgdiaaDoor
