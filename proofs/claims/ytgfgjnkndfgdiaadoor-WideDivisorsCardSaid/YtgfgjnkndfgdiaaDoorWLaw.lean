/- the laws of wide: wider, equal. -/
import Derived.Test.YtgfgjnkndfgdiaaDoorR5Number
namespace Go.Proofs.YtgfgjnkndfgdiaaDoor
open Go.RowKit

theorem len_pow (n k : Nat) (h : n < 2 ^ k) : (digs T4 n).length ≤ k := digs_len_le T4 t4_two _ _ (Nat.lt_of_lt_of_le h (Nat.pow_le_pow_left (by decide) _))
theorem lim_len4 (n : Nat) (h : n < LIM) : (digs T4 n).length ≤ 16384 := len_pow n 16384 (by rw [lim_eq] at h; exact h)

theorem dec_lenZ (z : Int) (h : z.natAbs < LIM) : (decZ z).length ≤ 4934 := by
  have h2 : (dec z.natAbs).length ≤ 4933 := dec_len_le _ _ (by omega) (by rw [lim_eq] at h; exact Nat.lt_of_lt_of_le h big_bound)
  unfold decZ
  split
  · rw [List.length_cons]; omega
  · omega

set_option maxRecDepth 100000 in
set_option maxHeartbeats 1000000 in
theorem wider_any (v : Value) (z : Int) (w : World) (h : RInt w v z) (hz : z.natAbs < LIM) :
    Calls Tryd.prog 25 #[v] w fun e w' => (∃ vx, e = .returned (.tuple #[vx, .bool true]) ∧ WInt w' vx z) ∧ Below w.heap.size w w' := by
  have hz' := hz
  rw [lim_eq] at hz'
  have Hpz := Lib.hid (parse_decZ z hz')
  have Hl := Lib.hid (lim_len4 _ hz)
  have Hd := Lib.hid (dec_lenZ z hz)
  have Hr := Lib.hid h
  obtain ⟨a, n, c, rfl, -, -, -⟩ := h.form
  clear hz hz' h
  generalize decide (z < 0) = s at *
  go_enter Tryd.func25, Tryd.ntmps25
  go_wp2_with fail
  have HB0 := Lib.hid (((Below.refl w.heap.size w).alloc (Nat.le_refl _) (.cells #[.bool s, .slice a n c] 25)).alloc (by simp) (.cells #[.bool false, .slice none 0 0] 33))
  have HT0 : Hid (Two ((w.alloc (.cells #[.bool s, .slice a n c] 25)).alloc (.cells #[.bool false, .slice none 0 0] 33)) (w.heap.size + 1) 33 (.bool false) (.slice none 0 0)) := Lib.hid (by
    have h9 := Two.new (w.alloc (.cells #[.bool s, .slice a n c] 25)) 33 (.bool false) (.slice none 0 0)
    rw [World.size_alloc] at h9
    exact h9)
  generalize hw0 : (w.alloc (.cells #[.bool s, .slice a n c] 25)).alloc (.cells #[.bool false, .slice none 0 0] 33) = w0 at *
  obtain ⟨g, hg⟩ : ∃ g, w.heap.size + 1 = g := ⟨_, rfl⟩
  have Hg := Lib.hid hg
  rw [hg] at HT0 ⊢
  clear hw0 hg
  refine (rtext_any _ z w0 (Hr.out.below (Nat.le_refl _) HB0.out) (Nat.le_trans Hl.out (by omega))).mono ?_
  rintro e w1 ⟨rfl, hB1⟩
  have HB1 := Lib.hid (HB0.out.trans (hB1.mono HB0.out.size))
  have HT1 := Lib.hid (HT0.out.below hB1 HT0.out.lt)
  clear hB1
  go_wp2_with fail
  refine (parse_any (decZ z) w1 (Nat.le_trans Hd.out (by omega))).mono ?_
  rintro e w2 ⟨hB2, he⟩
  rw [Hpz.out] at he
  obtain ⟨vx, rfl, hx, -⟩ := he
  have HX := Lib.hid hx
  obtain ⟨sx, ax, nx, cx, rfl⟩ := hx.form2
  have HB2 := Lib.hid (HB1.out.trans (hB2.mono HB1.out.size))
  have HT2 := Lib.hid ((HT1.out.below hB2 HT1.out.lt).alloc (.cells #[.bool sx, .slice ax nx cx] 33))
  have HX2 := Lib.hid (hx.below ((Below.refl _ w2).alloc (Nat.le_refl _) (.cells #[.bool sx, .slice ax nx cx] 33)))
  have HB3 := Lib.hid (HB2.out.alloc HB2.out.size (.cells #[.bool sx, .slice ax nx cx] 33))
  have t0 := HT2.out.cell0
  have t1 := HT2.out.cell1
  have t2 := HT2.out.frozen 0
  have t3 := HT2.out.frozen 1
  clear hx hB2
  go_wp2
  refine bodyPost_ret (v := .tuple #[.agg #[.bool sx, .slice ax nx cx], .bool true]) (by simp [results, Tryd.results25, go_sem, t0, t1]) rfl ⟨⟨_, rfl, ?_⟩, ?_⟩
  · exact HX2.out.set_two HT2.out _ _
  · have hgw : w.heap.size ≤ g := by rw [← Hg.out]; omega
    exact (HB3.out.setCell (p := ⟨g, 0, none⟩) hgw _).setCell (p := ⟨g, 1, none⟩) hgw _

set_option maxRecDepth 100000 in
set_option maxHeartbeats 1000000 in
theorem equal_any (vx vr : Value) (z : Int) (w : World) (hx : WInt w vx z) (hr : RInt w vr z) (hz : z.natAbs < LIM) (hT : Pow10 w) :
    Calls Tryd.prog 18 #[vx, vr] w fun e w' => e = .returned (.bool true) ∧ Below w.heap.size w w' := by
  have Hl := Lib.hid (lim_len4 _ hz)
  have Hz := Lib.hid hz
  have HX := Lib.hid hx
  have HR := Lib.hid hr
  have HP := Lib.hid hT
  have hg := hT.lt
  obtain ⟨T, hTx⟩ : ∃ T, sv (decZ z) = .string T := ⟨_, rfl⟩
  have Hsv := Lib.hid hTx
  clear hTx
  obtain ⟨sx, ax, nx, cx, rfl⟩ := hx.form2
  obtain ⟨a, n, c, rfl, -, -, -⟩ := hr.form
  clear hx hr hz hT
  generalize decide (z < 0) = s at *
  have HB0 := Lib.hid (((Below.refl w.heap.size w).alloc (Nat.le_refl _) (.cells #[.bool sx, .slice ax nx cx] 33)).alloc (by simp) (.cells #[.bool s, .slice a n c] 25))
  have HT0 := Lib.hid ((Two.new w 33 (.bool sx) (.slice ax nx cx)).alloc (.cells #[.bool s, .slice a n c] 25))
  have HU0 : Hid (Two ((w.alloc (.cells #[.bool sx, .slice ax nx cx] 33)).alloc (.cells #[.bool s, .slice a n c] 25)) (w.heap.size + 1) 25 (.bool s) (.slice a n c)) := Lib.hid (by
    have h9 := Two.new (w.alloc (.cells #[.bool sx, .slice ax nx cx] 33)) 25 (.bool s) (.slice a n c)
    rw [World.size_alloc] at h9
    exact h9)
  obtain ⟨w0, hw0⟩ : ∃ w0, (w.alloc (.cells #[.bool sx, .slice ax nx cx] 33)).alloc (.cells #[.bool s, .slice a n c] 25) = w0 := ⟨_, rfl⟩
  rw [hw0] at HB0 HT0 HU0
  obtain ⟨b, hb⟩ : ∃ b, w.heap.size = b := ⟨_, rfl⟩
  have Hb := Lib.hid hb
  rw [hb] at HB0 HT0 HU0
  have d0 := HT0.out.cell0
  have d1 := HT0.out.cell1
  have d2 := HU0.out.cell0
  have d3 := HU0.out.cell1
  go_enter Tryd.func18, Tryd.ntmps18
  go_wp2_with fail
  clear hw0 hb
  have HBd : Hid (Below b w w0.drew) := Lib.hid ⟨HB0.out.os, HB0.out.tape, HB0.out.output, HB0.out.size, HB0.out.block⟩
  have HTd : Hid (Two w0.drew b 33 (.bool sx) (.slice ax nx cx)) := Lib.hid HT0.out
  have HUd : Hid (Two w0.drew (b + 1) 25 (.bool s) (.slice a n c)) := Lib.hid HU0.out
  go_region_held3 (fun w' => w'.cell? ⟨b, 0, none⟩ = some (.bool sx) ∧ w'.cell? ⟨b, 1, none⟩ = some (.slice ax nx cx) ∧ w'.cell? ⟨b + 1, 0, none⟩ = some (.bool s) ∧ w'.cell? ⟨b + 1, 1, none⟩ = some (.slice a n c))
    (first | (exact ⟨d0, d1, d2, d3⟩) | (exact ⟨HT6.out.cell0, HT6.out.cell1, HU6.out.cell0, HU6.out.cell1⟩) | (exact ⟨HT5.out.cell0, HT5.out.cell1, HU5.out.cell0, HU5.out.cell1⟩) | go_keep)
    (first
      | (go_at_call 19; refine (string_any _ z w0.drew (HX.out.below' (Nat.le_of_eq Hb.out) HBd.out) Hz.out (HP.out.below HBd.out (by rw [← Hb.out]; exact hg))).mono ?_; rintro e w5 ⟨rfl, hB5⟩; rw [Hsv.out]; have HB5 := Lib.hid hB5; have HT5 := Lib.hid (HTd.out.below hB5 HTd.out.lt); have HU5 := Lib.hid (HUd.out.below hB5 HUd.out.lt); have HR5 := Lib.hid ((HR.out.below (Nat.le_of_eq Hb.out) HBd.out).below (Nat.le_refl _) hB5); clear hB5)
      | (go_at_call 12; refine (rtext_any _ z w5 HR5.out (Nat.le_trans Hl.out (by omega))).mono ?_; rintro e w6 ⟨rfl, hB6⟩; rw [Hsv.out]; have HB6 := Lib.hid hB6; have HT6 := Lib.hid (HT5.out.below hB6 HT5.out.lt); have HU6 := Lib.hid (HU5.out.below hB6 HU5.out.lt); clear hB6))
  go_wp2
  go_ret
  refine ⟨rfl, ?_⟩
  rw [Hb.out]
  have z0 : b ≤ w0.drew.heap.size := by rw [← Hb.out]; exact HBd.out.size
  exact HBd.out.trans ((HB5.out.trans (HB6.out.mono HB5.out.size)).mono z0)

theorem RInt.form2 {w : World} {v : Value} {z : Int} (h : RInt w v z) : ∃ s a n c, v = .agg #[.bool s, .slice a n c] := by
  obtain ⟨a, n, c, rfl, _⟩ := h.form
  exact ⟨_, _, _, _, rfl⟩
theorem numZ_le (zs : List Int) (len at_ : Nat) : (numZ zs len at_).natAbs ≤ 5 * (4 * 2 ^ 224 + 2) := by
  refine Nat.le_trans (numS_le zs len at_ _) (Nat.mul_le_mul_right _ ?_)
  have := pickN_range zs len at_ 5 (by omega)
  omega
theorem pow_mono2 {a b : Nat} (h : a ≤ b) : 2 ^ a ≤ 2 ^ b := Nat.pow_le_pow_right (by decide) h
theorem lim_ge (k m : Nat) (hL : LIM = 2 ^ m) (hk : k ≤ m) : 2 ^ k ≤ LIM := hL ▸ pow_mono2 hk
theorem lim_of_le {n k : Nat} (hk : k ≤ 16384) (h : n < 2 ^ k) : n < LIM := by
  exact Nat.lt_of_lt_of_le h (lim_ge k 16384 lim_eq hk)
theorem numZ_lt (zs : List Int) (len at_ : Nat) : (numZ zs len at_).natAbs < 2 ^ 230 := Nat.lt_of_le_of_lt (numZ_le zs len at_) (by decide)
theorem numZ_lim (zs : List Int) (len at_ : Nat) : (numZ zs len at_).natAbs < LIM := lim_of_le (k := 230) (by decide) (numZ_lt zs len at_)

theorem mul_lt_pow {x y : Int} {a b : Nat} (hx : x.natAbs < 2 ^ a) (hy : y.natAbs < 2 ^ b) : (x * y).natAbs < 2 ^ (a + b) := by
  rw [Int.natAbs_mul, Nat.pow_add]
  exact Nat.mul_lt_mul'' hx hy
theorem prod_lim (zs : List Int) (len : Nat) : (numZ zs len 0 * numZ zs len 6).natAbs < LIM := lim_of_le (k := 230 + 230) (by decide) (mul_lt_pow (numZ_lt _ _ _) (numZ_lt _ _ _))
theorem LimPost.okW {z : Int} {w w' : World} {e : Ending} (h : LimPost z w e w') (hz : z.natAbs < LIM) : ∃ v, e = .returned (.tuple #[v, .int .i64 0]) ∧ WInt w' v z ∧ Below w.heap.size w w' := by
  obtain ⟨hB, ⟨_, v, rfl, hW⟩ | ⟨hl, rfl⟩⟩ := h
  · exact ⟨v, rfl, hW, hB⟩
  · omega


end Go.Proofs.YtgfgjnkndfgdiaaDoor
