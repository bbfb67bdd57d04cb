/- the reference's integers: Power. -/
import Derived.Test.YtgfgjnkndfgdiaaDoorR5Mul
namespace Go.Proofs.YtgfgjnkndfgdiaaDoor
open Go.RowKit

theorem Two.far2 {w : World} {b g : Nat} {t : TypeId} {x y : Value} (h : Two w b t x y) (hne : b ≠ g) (u u' : Value) : Two ((w.setCell ⟨g, 0, none⟩ u).setCell ⟨g, 1, none⟩ u') b t x y :=
  (Below.heap_setCell _ ⟨g, 1, none⟩ u' b hne).trans ((Below.heap_setCell w ⟨g, 0, none⟩ u b hne).trans h)
theorem Two.put2 {w : World} {b : Nat} {t : TypeId} {x y : Value} (h : Two w b t x y) (u u' : Value) : Two ((w.setCell ⟨b, 0, none⟩ u).setCell ⟨b, 1, none⟩ u') b t u u' := by
  unfold Two at h ⊢
  simp [World.setCell, Array.getElem?_modify, h]

/-- a box that holds an integer of the reference -/
def RBox (w : World) (b : Nat) (z : Int) : Prop := ∃ a l c, Two w b 25 (.bool (decide (z < 0))) (.slice a l c) ∧ RInt w (.agg #[.bool (decide (z < 0)), .slice a l c]) z
theorem RBox.below {w w' : World} {b : Nat} {z : Int} (h : RBox w b z) (hb : Below w.heap.size w w') : RBox w' b z := by
  obtain ⟨a, l, c, h1, h2⟩ := h
  exact ⟨a, l, c, h1.below hb h1.lt, h2.below (Nat.le_refl _) hb⟩
theorem RBox.lt {w : World} {b : Nat} {z : Int} (h : RBox w b z) : b < w.heap.size := by
  obtain ⟨a, l, c, h1, h2⟩ := h
  exact h1.lt
theorem RBox.far {w : World} {b g : Nat} {z y : Int} (h : RBox w b z) (hg : RBox w g y) (hne : b ≠ g) (u u' : Value) : RBox ((w.setCell ⟨g, 0, none⟩ u).setCell ⟨g, 1, none⟩ u') b z := by
  obtain ⟨a, l, c, h1, h2⟩ := h
  obtain ⟨a', l', c', h1', h2'⟩ := hg
  exact ⟨a, l, c, h1.far2 hne u u', h2.set_two h1' u u'⟩
theorem RBox.put {w : World} {b : Nat} {z y : Int} {a : Option Addr} {l c : Nat} (h : RBox w b y) (hr : RInt w (.agg #[.bool (decide (z < 0)), .slice a l c]) z) : RBox ((w.setCell ⟨b, 0, none⟩ (.bool (decide (z < 0)))).setCell ⟨b, 1, none⟩ (.slice a l c)) b z := by
  obtain ⟨a', l', c', h1, h2⟩ := h
  exact ⟨a, l, c, h1.put2 _ _, hr.set_two h1 _ _⟩
theorem RBox.new {w : World} {z : Int} {a : Option Addr} {l c : Nat} (hr : RInt w (.agg #[.bool (decide (z < 0)), .slice a l c]) z) : RBox (w.alloc (.cells #[.bool (decide (z < 0)), .slice a l c] 25)) w.heap.size z :=
  ⟨a, l, c, Two.new w _ _ _, hr.below (Nat.le_refl _) ((Below.refl _ w).alloc (Nat.le_refl _) _)⟩
theorem RBox.alloc {w : World} {b : Nat} {z : Int} (h : RBox w b z) (o : Obj) : RBox (w.alloc o) b z := h.below ((Below.refl _ w).alloc (Nat.le_refl _) _)
theorem pow_nneg (a : Nat) : decide (((2 ^ a : Nat) : Int) < 0) = false := decide_eq_false (Int.not_lt.2 (Int.natCast_nonneg _))
theorem pow_mul2 (a b : Nat) : ((2 ^ a : Nat) : Int) * ((2 ^ b : Nat) : Int) = ((2 ^ (a + b) : Nat) : Int) := by rw [← Int.natCast_mul, ← Nat.pow_add]
theorem pow_len (a : Nat) : (digs T4 ((2 ^ a : Nat) : Int).natAbs).length ≤ a + 1 := by
  apply digs_len_le T4 t4_two
  rw [Int.natAbs_natCast]
  exact Nat.lt_of_le_of_lt (Nat.pow_le_pow_left (by decide) a) (Nat.pow_lt_pow_right (by decide) (by omega))

set_option maxRecDepth 100000 in
set_option maxHeartbeats 1000000 in
theorem power_any (K : Nat) (w : World) (hK : K ≤ 524288) :
    Calls Tryd.prog 46 #[.int .i64 (K : Int)] w (RPost ((2 ^ K : Nat) : Int) w) := by
  obtain ⟨n, hn⟩ : ∃ n, w.heap.size = n := ⟨_, rfl⟩
  have Hn := Lib.hid hn
  have HB0 := Lib.hid ((Below.refl w.heap.size w).alloc (Nat.le_refl _) (.cells #[.bool false, .slice none 0 0] 25))
  have HT0 := Lib.hid (Two.new w 25 (.bool false) (.slice none 0 0))
  have hs0 : w.heap.size < (w.alloc (.cells #[.bool false, .slice none 0 0] 25)).heap.size := by simp
  generalize hw0 : w.alloc (.cells #[.bool false, .slice none 0 0] 25) = w0 at *
  go_enter Tryd.func46, Tryd.ntmps46
  go_wp2_with fail
  clear hw0
  refine (of_any 1 w0 (by omega) (by omega)).mono ?_
  rintro e w1 ⟨⟨vr, rfl, hr⟩, hB⟩
  have Hr1 := Lib.hid hr
  obtain ⟨a1, l1, c1, rfl, -, -, -⟩ := hr.form
  have HB1 := Lib.hid hB
  clear hr hB
  have hb1 := HB1.out.size
  have HX1 := Lib.hid (RBox.new (z := ((2 ^ 0 : Nat) : Int)) Hr1.out)
  have HBA := Lib.hid (HB0.out.trans ((HB1.out.alloc hb1 (.cells #[.bool (decide ((1 : Int) < 0)), .slice a1 l1 c1] 25)).mono (by omega)))
  have HTA := Lib.hid (HT0.out.below (HB1.out.alloc hb1 (.cells #[.bool (decide ((1 : Int) < 0)), .slice a1 l1 c1] 25)) (by omega))
  change Hid (RBox (w1.alloc (.cells #[.bool (decide ((1 : Int) < 0)), .slice a1 l1 c1] 25)) w1.heap.size ((2 ^ 0 : Nat) : Int)) at HX1
  obtain ⟨bo, hbo⟩ : ∃ bo, w1.heap.size = bo := ⟨_, rfl⟩
  have e1 : decide ((1 : Int) < 0) = false := rfl
  rw [hbo] at HX1
  rw [e1] at Hr1 HX1 HBA HTA ⊢
  clear e1 Hr1 HB1 HB0 HT0
  obtain ⟨w2, hw2⟩ : ∃ w2, w1.alloc (.cells #[.bool false, .slice a1 l1 c1] 25) = w2 := ⟨_, rfl⟩
  have hs2 : w2.heap.size = bo + 1 := by rw [← hw2, World.size_alloc, hbo]
  rw [hw2] at HX1 HBA HTA
  go_wp2_with fail
  clear hw2
  refine (of_any 2 w2 (by omega) (by omega)).mono ?_
  rintro e w3 ⟨⟨vr, rfl, hr⟩, hB⟩
  have Hr3 := Lib.hid hr
  obtain ⟨a3, l3, c3, rfl, -, -, -⟩ := hr.form
  have HB3 := Lib.hid hB
  clear hr hB
  have hb3 := HB3.out.size
  have HX3 := Lib.hid ((HX1.out.below HB3.out).alloc (.cells #[.bool (decide ((2 : Int) < 0)), .slice a3 l3 c3] 25))
  have HY3 := Lib.hid (RBox.new (z := ((2 ^ 1 : Nat) : Int)) Hr3.out)
  have HBC := Lib.hid (HBA.out.trans ((HB3.out.alloc hb3 (.cells #[.bool (decide ((2 : Int) < 0)), .slice a3 l3 c3] 25)).mono (by omega)))
  have HTC := Lib.hid (HTA.out.below (HB3.out.alloc hb3 (.cells #[.bool (decide ((2 : Int) < 0)), .slice a3 l3 c3] 25)) (by omega))
  change Hid (RBox (w3.alloc (.cells #[.bool (decide ((2 : Int) < 0)), .slice a3 l3 c3] 25)) w3.heap.size ((2 ^ 1 : Nat) : Int)) at HY3
  obtain ⟨bt, hbt⟩ : ∃ bt, w3.heap.size = bt := ⟨_, rfl⟩
  have e1 : decide ((2 : Int) < 0) = false := rfl
  rw [hbt] at HY3
  rw [e1] at Hr3 HX3 HY3 HBC HTC ⊢
  have hot : bo < bt := by omega
  have hnb : n < bo := by omega
  clear e1 Hr3 HB3 HBA HTA HX1
  obtain ⟨w4, hw4⟩ : ∃ w4, w3.alloc (.cells #[.bool false, .slice a3 l3 c3] 25) = w4 := ⟨_, rfl⟩
  have hs4 : w4.heap.size = bt + 1 := by rw [← hw4, World.size_alloc, hbt]
  rw [hw4] at HX3 HY3 HBC HTC
  rw [hn] at HBC HTC
  go_wp2_with fail
  clear hw4 hbt hbo hs2 hb1 hb3 hs0
  go_loopw [0] (fun kv wr => ∃ (k a b : Nat), kv = .int .i64 (k : Int) ∧ k ≤ K ∧ Hid (a + b * k = K) ∧ Hid (RBox wr bo ((2 ^ a : Nat) : Int)) ∧ Hid (RBox wr bt ((2 ^ b : Nat) : Int)) ∧ Hid (Below n w wr) ∧ Hid (Two wr n 25 (.bool false) (.slice none 0 0))) (fun kv _ => cntV kv)
  case atStart => exact ⟨K, 0, 1, rfl, Nat.le_refl _, Lib.hid (by omega), HX3, HY3, HBC, HTC⟩
  case round =>
    obtain ⟨k, a, b, rfl, hk, hab, hX, hY, hB, hT⟩ := hrel
    obtain ⟨xa, xl, xc, hX1, hX2⟩ := hX.out
    obtain ⟨ya, yl, yc, hY1, hY2⟩ := hY.out
    rw [pow_nneg] at hX1 hX2 hY1 hY2
    have HX2 := Lib.hid hX2
    have HY2 := Lib.hid hY2
    have x0 := hX1.cell0
    have x1 := hX1.cell1
    have x2 := hX1.frozen 0
    have x3 := hX1.frozen 1
    have y0 := hY1.cell0
    have y1 := hY1.cell1
    have y2 := hY1.frozen 0
    have y3 := hY1.frozen 1
    have hwb := hY1.lt
    clear hX1 hX2 hY1 hY2
    by_cases h0 : k = 0
    · subst h0
      have t0 := hT.out.cell0
      have t1 := hT.out.cell1
      have t2 := hT.out.frozen 0
      have t3 := hT.out.frozen 1
      go_wp2
      refine bodyPost_ret (v := .agg #[.bool false, .slice xa xl xc]) (by simp [results, Tryd.results46, go_sem, t0, t1]) rfl ⟨⟨_, rfl, ?_⟩, ?_⟩
      · have e : a = K := by have := hab.out; omega
        rw [← e]
        exact HX2.out.set_two hT.out _ _
      · rw [Hn.out]
        exact (hB.out.setCell (p := ⟨n, 0, none⟩) (Nat.le_refl _) _).setCell (p := ⟨n, 1, none⟩) (Nat.le_refl _) _
    · have hbK : b ≤ K := by
        have h5 := hab.out
        have h6 : b * 1 ≤ b * k := Nat.mul_le_mul_left b (by omega)
        omega
      have haK : a ≤ K := by have := hab.out; omega
      have hkp : 0 < k := by omega
      have hkI : (k : Int) / 2 = ((k / 2 : Nat) : Int) := by omega
      obtain ⟨q, hq⟩ : ∃ q, k / 2 = q := ⟨_, rfl⟩
      rw [hq] at hkI
      by_cases hodd : k % 2 = 1
      · have hmI : (k : Int) % 2 = 1 := by omega
        have hqk : k = 2 * q + 1 := by omega
        have hqlt : q < k := by omega
        have Hab := Lib.hid (show a + b + (b + b) * q = K by rw [← hab.out, hqk, Nat.add_mul, Nat.mul_add, ← Nat.mul_assoc, Nat.mul_comm b 2, Nat.two_mul, Nat.add_mul]; omega)
        clear hqk hq hodd h0
        go_wp2_with fail
        refine (rmul_any _ _ _ _ wr HX2.out HY2.out (Nat.le_trans (pow_len a) (by omega)) (Nat.le_trans (pow_len b) (by omega))).mono ?_
        rintro e w5 ⟨⟨vr, rfl, hr⟩, hB⟩
        have Hr5 := Lib.hid hr
        obtain ⟨a5, l5, c5, rfl, -, -, -⟩ := hr.form
        have HB5 := Lib.hid hB
        clear hr hB
        rw [pow_mul2] at Hr5
        rw [pow_mul2, pow_nneg]
        rw [pow_nneg] at Hr5
        have HX5 := Lib.hid (hX.out.below HB5.out)
        have HY5 := Lib.hid (hY.out.below HB5.out)
        have HBN5 := Lib.hid (hB.out.trans (HB5.out.mono (Nat.le_trans (Nat.le_of_eq Hn.out.symm) hB.out.size)))
        have HT5 := Lib.hid (hT.out.below HB5.out hT.out.lt)
        have hP := Lib.hid (pow_nneg (a + b))
        have HX7 : Hid (RBox ((w5.setCell ⟨bo, 0, none⟩ (.bool false)).setCell ⟨bo, 1, none⟩ (.slice a5 l5 c5)) bo ((2 ^ (a + b) : Nat) : Int)) := Lib.hid (by have h9 := HX5.out.put (z := ((2 ^ (a + b) : Nat) : Int)) (a := a5) (l := l5) (c := c5) (by rw [hP.out]; exact Hr5.out); rw [hP.out] at h9; exact h9)
        have HY7 := Lib.hid (HY5.out.far HX5.out (by omega) (.bool false) (.slice a5 l5 c5))
        have HBN7 := Lib.hid ((HBN5.out.setCell (p := ⟨bo, 0, none⟩) (by show n ≤ bo; omega) (.bool false)).setCell (p := ⟨bo, 1, none⟩) (by show n ≤ bo; omega) (.slice a5 l5 c5))
        have HT7 := Lib.hid (HT5.out.far2 (show n ≠ bo by omega) (.bool false) (.slice a5 l5 c5))
        obtain ⟨xa5, xl5, xc5, hX51, -⟩ := HX5.out
        obtain ⟨ya7, yl7, yc7, hY71, hY72⟩ := HY7.out
        rw [pow_nneg] at hX51 hY71 hY72
        have x50 := hX51.cell0
        have x51 := hX51.cell1
        have x52 := hX51.frozen 0
        have x53 := hX51.frozen 1
        have HY72 := Lib.hid hY72
        obtain ⟨w7, hw7⟩ : ∃ w7, (w5.setCell ⟨bo, 0, none⟩ (.bool false)).setCell ⟨bo, 1, none⟩ (.slice a5 l5 c5) = w7 := ⟨_, rfl⟩
        rw [hw7] at HX7 HY7 HBN7 HT7 hY71 HY72
        have y70 := hY71.cell0
        have y71 := hY71.cell1
        clear hX51 hY71 hY72 hP
        go_wp2_with fail
        refine (rmul_any _ _ _ _ w7 HY72.out HY72.out (Nat.le_trans (pow_len b) (by omega)) (Nat.le_trans (pow_len b) (by omega))).mono ?_
        rintro e w6 ⟨⟨vr, rfl, hr⟩, hB⟩
        have Hr6 := Lib.hid hr
        obtain ⟨a6, l6, c6, rfl, -, -, -⟩ := hr.form
        have HB6 := Lib.hid hB
        clear hr hB
        rw [pow_mul2] at Hr6
        rw [pow_mul2, pow_nneg]
        have hP := Lib.hid (pow_nneg (b + b))
        rw [pow_nneg] at Hr6
        have HX6 := Lib.hid (HX7.out.below HB6.out)
        have HY6 := Lib.hid (HY7.out.below HB6.out)
        have HBN6 := Lib.hid (HBN7.out.trans (HB6.out.mono (Nat.le_trans (Nat.le_of_eq Hn.out.symm) HBN7.out.size)))
        have HT6 := Lib.hid (HT7.out.below HB6.out HT7.out.lt)
        obtain ⟨ya6, yl6, yc6, hY61, -⟩ := HY6.out
        rw [pow_nneg] at hY61
        have y60 := hY61.cell0
        have y61 := hY61.cell1
        have y62 := hY61.frozen 0
        have y63 := hY61.frozen 1
        clear hY61
        go_wp2_with fail
        go_roundw
        case rel => exact ⟨q, a + b, b + b, by first | rfl | (congr 1), by omega, Hab, Lib.hid (HX6.out.far HY6.out (by omega) _ _), Lib.hid (by have h9 := HY6.out.put (z := ((2 ^ (b + b) : Nat) : Int)) (a := a6) (l := l6) (c := c6) (by rw [hP.out]; exact Hr6.out); rw [hP.out] at h9; exact h9), Lib.hid ((HBN6.out.setCell (p := ⟨bt, 0, none⟩) (by show n ≤ bt; omega) _).setCell (p := ⟨bt, 1, none⟩) (by show n ≤ bt; omega) _), Lib.hid (HT6.out.far2 (by omega) _ _)⟩
        case measure => simp [cntV]; omega
      · have hmI : (k : Int) % 2 = 0 := by omega
        have hqk : k = 2 * q := by omega
        have hqlt : q < k := by omega
        have Hab := Lib.hid (show a + (b + b) * q = K by rw [← hab.out, hqk, Nat.mul_comm b, Nat.mul_right_comm, Nat.mul_comm 2 b, Nat.mul_two])
        clear hqk hq hodd h0
        go_wp2_with fail
        refine (rmul_any _ _ _ _ wr HY2.out HY2.out (Nat.le_trans (pow_len b) (by omega)) (Nat.le_trans (pow_len b) (by omega))).mono ?_
        rintro e w6 ⟨⟨vr, rfl, hr⟩, hB⟩
        have Hr6 := Lib.hid hr
        obtain ⟨a6, l6, c6, rfl, -, -, -⟩ := hr.form
        have HB6 := Lib.hid hB
        clear hr hB
        rw [pow_mul2] at Hr6
        rw [pow_mul2, pow_nneg]
        have hP := Lib.hid (pow_nneg (b + b))
        rw [pow_nneg] at Hr6
        have HX6 := Lib.hid (hX.out.below HB6.out)
        have HY6 := Lib.hid (hY.out.below HB6.out)
        have HBN6 := Lib.hid (hB.out.trans (HB6.out.mono (Nat.le_trans (Nat.le_of_eq Hn.out.symm) hB.out.size)))
        have HT6 := Lib.hid (hT.out.below HB6.out hT.out.lt)
        obtain ⟨ya6, yl6, yc6, hY61, -⟩ := HY6.out
        rw [pow_nneg] at hY61
        have y60 := hY61.cell0
        have y61 := hY61.cell1
        have y62 := hY61.frozen 0
        have y63 := hY61.frozen 1
        clear hY61
        go_wp2_with fail
        go_roundw
        case rel => exact ⟨q, a, b + b, by first | rfl | (congr 1), by omega, Hab, Lib.hid (HX6.out.far HY6.out (by omega) _ _), Lib.hid (by have h9 := HY6.out.put (z := ((2 ^ (b + b) : Nat) : Int)) (a := a6) (l := l6) (c := c6) (by rw [hP.out]; exact Hr6.out); rw [hP.out] at h9; exact h9), Lib.hid ((HBN6.out.setCell (p := ⟨bt, 0, none⟩) (by show n ≤ bt; omega) _).setCell (p := ⟨bt, 1, none⟩) (by show n ≤ bt; omega) _), Lib.hid (HT6.out.far2 (by omega) _ _)⟩
        case measure => simp [cntV]; omega

end Go.Proofs.YtgfgjnkndfgdiaaDoor
