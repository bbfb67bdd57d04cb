/- the reference's integers: Neg. -/
import Derived.Test.YtgfgjnkndfgdiaaDoorR5Cmp
namespace Go.Proofs.YtgfgjnkndfgdiaaDoor
open Go.RowKit

set_option maxRecDepth 100000 in
set_option maxHeartbeats 1000000 in
theorem rneg_any (v : Value) (z : Int) (w : World) (h : RInt w v z) (hlen : (digs T4 z.natAbs).length ≤ 4611686018427387904) :
    Calls Tryd.prog 36 #[v] w fun e w' => (∃ vr, e = .returned vr ∧ RInt w' vr (-z)) ∧ Below w.heap.size w w' := by
  obtain ⟨a, n, c, rfl, hd, -, hc⟩ := h.form
  have Hno := Lib.hid (fun w' (hb : Below w.heap.size w w') => normal_any (!decide (z < 0)) (.slice a n c) (digs T4 z.natAbs) w' (RowAt.below hd (Nat.le_refl _) hb) (digs_low T4 t4_two _) hlen)
  rw [val_digs T4 t4_two, sgn_opp] at Hno
  generalize decide (z < 0) = s at *
  have HB0 := Lib.hid (((Below.refl w.heap.size w).alloc (Nat.le_refl _) (.cells #[.bool s, .slice a n c] 25)).alloc (by simp) (.cells #[.bool false, .slice none 0 0] 25))
  have HT : Hid (Two ((w.alloc (.cells #[.bool s, .slice a n c] 25)).alloc (.cells #[.bool false, .slice none 0 0] 25)) (w.heap.size + 1) 25 (.bool false) (.slice none 0 0)) := Lib.hid (by
    have h9 := Two.new (w.alloc (.cells #[.bool s, .slice a n c] 25)) 25 (.bool false) (.slice none 0 0)
    rw [World.size_alloc] at h9
    exact h9)
  clear h hd hlen
  go_enter Tryd.func36, Tryd.ntmps36
  go_wp2_with fail
  refine (Hno.out _ HB0.out).mono ?_
  rintro e w5 ⟨⟨vr, rfl, hr⟩, hB5⟩
  have Hr := Lib.hid hr
  obtain ⟨a5, n5, c5, rfl, -, -, -⟩ := hr.form
  have HT5 := Lib.hid (HT.out.below hB5 (by simp))
  have f0 := HT5.out.cell0
  have f1 := HT5.out.cell1
  have f2 := HT5.out.frozen 0
  have f3 := HT5.out.frozen 1
  have HB5 := Lib.hid (HB0.out.trans (hB5.mono (by simp; omega)))
  clear hr hB5 Hno
  go_wp2
  refine bodyPost_ret (v := .agg #[.bool (decide (-z < 0)), .slice a5 n5 c5]) (by simp [results, Tryd.results36, go_sem, f0, f1]) rfl ⟨⟨_, rfl, Hr.out.set_two HT5.out _ _⟩, (HB5.out.setCell (p := ⟨w.heap.size + 1, 0, none⟩) (by show _ ≤ w.heap.size + 1; omega) _).setCell (p := ⟨w.heap.size + 1, 1, none⟩) (by show _ ≤ w.heap.size + 1; omega) _⟩

end Go.Proofs.YtgfgjnkndfgdiaaDoor
