/- the reference's integers: Of. -/
import Derived.Test.YtgfgjnkndfgdiaaDoorR5Normal
namespace Go.Proofs.YtgfgjnkndfgdiaaDoor
open Go.RowKit

theorem infoInt : (Tryd.prog.info? 3).map (fun i => (i.zero, i.size, i.bytes)) = some (some (.int .i64 0), 1, 8) := by kernel_rfl
theorem t4_len (m : Nat) (h : m < 18446744073709551616) : (digs T4 m).length ≤ 5 := digs_len_le T4 t4_two 5 m (Nat.lt_trans h (by decide))

theorem RowAt.of_owns {k : IntKind} {w : World} {B : Nat} {e : TypeId} {ga : Option Addr} {n gc : Nat} {L : List Nat} (h : w.ownsRow B e 1 (.slice ga n gc) n (L.map (iv k))) (hn : n = L.length) : RowAt k w (.slice ga n gc) L := by
  rcases id h.2 with ⟨hv, _⟩ | ⟨g, cap, cur, hv, _, hg, h1, h2, _, _⟩
  · injection hv with e1 e2 e3
    subst e1 e2 e3
    exact ⟨none, 0, by rw [← hn], by omega, by omega, fun h0 => by omega⟩
  · injection hv with e1 e2 e3
    subst e1 e3
    subst hn
    unfold maxLen at h2
    refine ⟨_, gc, rfl, h1, by omega, fun h0 => ⟨g, 0, rfl, (Array.getElem?_eq_some_iff.1 hg).1, fun j hj => ?_⟩⟩
    rw [Nat.zero_add, h.cellAt j (by omega), List.getElem?_map, List.getElem?_eq_getElem hj]
    rfl

theorem RInt.set_two {w : World} {v : Value} {z : Int} {b : Nat} {t : TypeId} {x : Bool} {p : Option Addr} {l c : Nat} (h : RInt w v z) (hT : Two w b t (.bool x) (.slice p l c)) (u u' : Value) :
    RInt ((w.setCell ⟨b, 0, none⟩ u).setCell ⟨b, 1, none⟩ u') v z := by
  obtain ⟨vw, hv, hm⟩ := h
  exact ⟨vw, hv, RowAt.set_two hm hT u u'⟩

set_option maxRecDepth 100000 in
set_option maxHeartbeats 4000000 in
theorem of_pos (m : Nat) (w : World) (h : m ≤ 9223372036854775807) :
    Calls Tryd.prog 23 #[.int .i64 (m : Int)] w fun e w' => (∃ vr, e = .returned vr ∧ RInt w' vr (m : Int)) ∧ Below w.heap.size w w' := by
  obtain ⟨i0, hi, hz0, hz1, hz2⟩ := info_parts infoInt
  have Hi := Lib.hid hi
  have Hz0 := Lib.hid hz0
  have Hz1 := Lib.hid hz1
  have Hz2 := Lib.hid hz2
  clear hi hz0 hz1 hz2
  have hm0 : ¬ ((m : Int) < 0) := by omega
  have HL5 := Lib.hid (t4_len m (by omega))
  go_enter Tryd.func23, Tryd.ntmps23
  go_wp2
  have HB0 := Lib.hid ((Below.refl w.heap.size w).alloc (Nat.le_refl _) (.cells #[.bool false, .slice none 0 0] 25))
  have HT0 := Lib.hid (Two.new w 25 (.bool false) (.slice none 0 0))
  have hs0 : w.heap.size < (w.alloc (.cells #[.bool false, .slice none 0 0] 25)).heap.size := by simp
  generalize hw0 : w.alloc (.cells #[.bool false, .slice none 0 0] 25) = w0 at *
  clear hw0
  go_loopw [0, 3] (fun nv dv wr => ∃ (acc : List Nat) (r : Nat) (ga : Option Addr) (gc : Nat), nv = .int .i64 (r : Int) ∧ dv = .slice ga acc.length gc ∧ Hid (acc ++ digs T4 r = digs T4 m) ∧ r ≤ m ∧ Hid (wr.ownsRow w0.heap.size 3 1 (.slice ga acc.length gc) acc.length (acc.map (iv .i64))) ∧ Hid (Below w0.heap.size w0 wr)) (fun nv _ _ => cntV nv)
  case atStart => exact ⟨[], m, none, 0, rfl, rfl, Lib.hid rfl, Nat.le_refl _, Lib.hid (World.ownsRow_nil _ _ _ _), Lib.hid (Below.refl _ _)⟩
  case round =>
    obtain ⟨acc, r, ga, gc, rfl, rfl, hacc, hrm, hown, hB⟩ := hrel
    have hzr := hB.out.size
    have hal : acc.length ≤ 5 := by
      have h3 := congrArg List.length hacc.out
      rw [List.length_append] at h3
      have := HL5.out
      omega
    have hgc : gc ≤ 9223372036854775807 := by
      rcases hown.out.2 with ⟨hv, _⟩ | ⟨_, _, _, hv, _, _, _, h3, _⟩
      · injection hv with _ _ e; omega
      · injection hv with _ _ e; unfold maxLen at h3; omega
    by_cases hr0 : r = 0
    · subst hr0
      have hA : acc = digs T4 m := by have h3 := hacc.out; rwa [digs_zero, List.append_nil] at h3
      have Hno := Lib.hid (normal_any false _ acc _ (RowAt.of_owns hown.out rfl) (by rw [hA]; exact digs_low T4 t4_two m) (by omega))
      have HA := Lib.hid hA
      clear hA
      go_wp2_with fail
      refine Hno.out.mono ?_
      rintro e w5 ⟨⟨vr, rfl, hr⟩, hB5⟩
      rw [HA.out, val_digs T4 t4_two] at hr
      have Hr := Lib.hid hr
      obtain ⟨a5, n5, c5, rfl, -, -, -⟩ := hr.form
      have HT5 := Lib.hid ((HT0.out.below hB.out (by omega)).below hB5 (by omega))
      have f0 := HT5.out.cell0
      have f1 := HT5.out.cell1
      have f2 := HT5.out.frozen 0
      have f3 := HT5.out.frozen 1
      have HB5 := Lib.hid (HB0.out.trans ((hB.out.trans (hB5.mono hzr)).mono (by omega)))
      clear hr hB5 Hno
      go_wp2
      refine bodyPost_ret (v := .agg #[.bool (decide (sgn false m < 0)), .slice a5 n5 c5]) (by simp [results, Tryd.results23, go_sem, f0, f1]) rfl ⟨⟨_, rfl, ?_⟩, (HB5.out.setCell (p := ⟨w.heap.size, 0, none⟩) (Nat.le_refl _) _).setCell (p := ⟨w.heap.size, 1, none⟩) (Nat.le_refl _) _⟩
      exact Hr.out.set_two HT5.out _ _
    · have hstep := digs_pos T4 r t4_two hr0
      have hal2 : acc.length ≤ 4 := by
        have h3 := congrArg List.length hacc.out
        rw [List.length_append, hstep, List.length_cons] at h3
        have := HL5.out
        omega
      have Hst := Lib.hid hstep
      obtain ⟨k, hk⟩ : ∃ k, r % T4 = k := ⟨_, rfl⟩
      obtain ⟨q, hq⟩ : ∃ q, r / T4 = q := ⟨_, rfl⟩
      have hk' : r % 10000 = k := hk
      have hq' : r / 10000 = q := hq
      have hkI : (r : Int) % 10000 = (k : Int) := by omega
      have hqI : (r : Int) / 10000 = (q : Int) := by omega
      have hk4 : k < 10000 := by omega
      have hqr : q < r := by omega
      rw [hk, hq] at Hst
      have Hgown := Lib.hid hown.out.lt
      clear hstep hk hq hk' hq'
      go_wp2_with (at_builtin; refine wpList_append_own _ rfl _ _ 22 rfl w0.heap.size 3 i0 _ 1 8 Tryd.underlying22 Hi.out Hz0.out Hz1.out Hz2.out rfl (by decide) _ _ _ rfl (hown.out.alloc _) ⟨wr.heap.size, 0, none⟩ 1 1 [iv .i64 k] rfl rfl (cell_one_new _ _ _) (by simp [Value.oneCell', iv]) (by unfold maxLen; omega) (by omega) (by simp; omega) ?_)
      intro v5 w5 hown5 hgrow _
      obtain ⟨g5, cap5, hv5, _⟩ := hown5.form (by omega)
      subst hv5
      have Hown5 : Hid (w5.ownsRow w0.heap.size 3 1 (.slice (some ⟨g5, 0, none⟩) (acc ++ [k]).length cap5) (acc ++ [k]).length ((acc ++ [k]).map (iv .i64))) := Lib.hid (by rw [List.length_append, List.map_append]; exact hown5)
      have HB5 := Lib.hid ((hB.out.alloc (by omega) (.cells #[.int .i64 (k : Int)] 3)).grown hgrow (by simp; omega) (fun k e => (hown.out.lt k e).1))
      clear hown5 hgrow
      go_wp2
      go_roundw
      case rel => exact ⟨acc ++ [k], q, some ⟨g5, 0, none⟩, cap5, rfl, by simp, Lib.hid (by rw [List.append_assoc]; show acc ++ (k :: digs T4 q) = _; rw [← hacc.out, Hst.out]), by omega, Hown5, HB5⟩
      case measure => simp [cntV]; omega

def absV : Value → Nat
  | .int _ i => i.natAbs
  | _ => 0

set_option maxRecDepth 100000 in
set_option maxHeartbeats 4000000 in
theorem of_neg (m : Nat) (w : World) (h0 : 0 < m) (h : m ≤ 9223372036854775808) :
    Calls Tryd.prog 23 #[.int .i64 (-(m : Int))] w fun e w' => (∃ vr, e = .returned vr ∧ RInt w' vr (-(m : Int))) ∧ Below w.heap.size w w' := by
  obtain ⟨i0, hi, hz0, hz1, hz2⟩ := info_parts infoInt
  have Hi := Lib.hid hi
  have Hz0 := Lib.hid hz0
  have Hz1 := Lib.hid hz1
  have Hz2 := Lib.hid hz2
  clear hi hz0 hz1 hz2
  have hm0 : -(m : Int) < 0 := by omega
  have HL5 := Lib.hid (t4_len m (by omega))
  go_enter Tryd.func23, Tryd.ntmps23
  go_wp2
  have HB0 := Lib.hid ((Below.refl w.heap.size w).alloc (Nat.le_refl _) (.cells #[.bool false, .slice none 0 0] 25))
  have HT0 := Lib.hid (Two.new w 25 (.bool false) (.slice none 0 0))
  have hs0 : w.heap.size < (w.alloc (.cells #[.bool false, .slice none 0 0] 25)).heap.size := by simp
  generalize hw0 : w.alloc (.cells #[.bool false, .slice none 0 0] 25) = w0 at *
  clear hw0
  go_loopw [0, 3] (fun nv dv wr => ∃ (acc : List Nat) (r : Nat) (ga : Option Addr) (gc : Nat), nv = .int .i64 (-(r : Int)) ∧ dv = .slice ga acc.length gc ∧ Hid (acc ++ digs T4 r = digs T4 m) ∧ r ≤ m ∧ Hid (wr.ownsRow w0.heap.size 3 1 (.slice ga acc.length gc) acc.length (acc.map (iv .i64))) ∧ Hid (Below w0.heap.size w0 wr)) (fun nv _ _ => absV nv)
  case atStart => exact ⟨[], m, none, 0, rfl, rfl, Lib.hid rfl, Nat.le_refl _, Lib.hid (World.ownsRow_nil _ _ _ _), Lib.hid (Below.refl _ _)⟩
  case round =>
    obtain ⟨acc, r, ga, gc, rfl, rfl, hacc, hrm, hown, hB⟩ := hrel
    have hzr := hB.out.size
    have hal : acc.length ≤ 5 := by
      have h3 := congrArg List.length hacc.out
      rw [List.length_append] at h3
      have := HL5.out
      omega
    have hgc : gc ≤ 9223372036854775807 := by
      rcases hown.out.2 with ⟨hv, _⟩ | ⟨_, _, _, hv, _, _, _, h3, _⟩
      · injection hv with _ _ e; omega
      · injection hv with _ _ e; unfold maxLen at h3; omega
    by_cases hr0 : r = 0
    · subst hr0
      have hA : acc = digs T4 m := by have h3 := hacc.out; rwa [digs_zero, List.append_nil] at h3
      have Hno := Lib.hid (normal_any true _ acc _ (RowAt.of_owns hown.out rfl) (by rw [hA]; exact digs_low T4 t4_two m) (by omega))
      have HA := Lib.hid hA
      clear hA
      go_wp2_with fail
      refine Hno.out.mono ?_
      rintro e w5 ⟨⟨vr, rfl, hr⟩, hB5⟩
      rw [HA.out, val_digs T4 t4_two] at hr
      have Hr := Lib.hid hr
      obtain ⟨a5, n5, c5, rfl, -, -, -⟩ := hr.form
      have HT5 := Lib.hid ((HT0.out.below hB.out (by omega)).below hB5 (by omega))
      have f0 := HT5.out.cell0
      have f1 := HT5.out.cell1
      have f2 := HT5.out.frozen 0
      have f3 := HT5.out.frozen 1
      have HB5 := Lib.hid (HB0.out.trans ((hB.out.trans (hB5.mono hzr)).mono (by omega)))
      clear hr hB5 Hno
      go_wp2
      refine bodyPost_ret (v := .agg #[.bool (decide (sgn true m < 0)), .slice a5 n5 c5]) (by simp [results, Tryd.results23, go_sem, f0, f1]) rfl ⟨⟨_, rfl, ?_⟩, (HB5.out.setCell (p := ⟨w.heap.size, 0, none⟩) (Nat.le_refl _) _).setCell (p := ⟨w.heap.size, 1, none⟩) (Nat.le_refl _) _⟩
      exact Hr.out.set_two HT5.out _ _
    · have hstep := digs_pos T4 r t4_two hr0
      have hal2 : acc.length ≤ 4 := by
        have h3 := congrArg List.length hacc.out
        rw [List.length_append, hstep, List.length_cons] at h3
        have := HL5.out
        omega
      have Hst := Lib.hid hstep
      obtain ⟨k, hk⟩ : ∃ k, r % T4 = k := ⟨_, rfl⟩
      obtain ⟨q, hq⟩ : ∃ q, r / T4 = q := ⟨_, rfl⟩
      have hk' : r % 10000 = k := hk
      have hq' : r / 10000 = q := hq
      have hkI : (-(r : Int)).tmod 10000 = -(k : Int) := by rw [Int.neg_tmod, ← hk']; rfl
      have hqI : (-(r : Int)).tdiv 10000 = -(q : Int) := by rw [Int.neg_tdiv, ← hq']; rfl
      have hk4 : k < 10000 := by omega
      have hqr : q < r := by omega
      rw [hk, hq] at Hst
      have Hgown := Lib.hid hown.out.lt
      clear hstep hk hq hk' hq'
      rcases Nat.eq_zero_or_pos k with hk0 | hk0
      · subst hk0
        rw [show -((0 : Nat) : Int) = 0 from rfl] at hkI
        go_wp2_with (at_builtin; refine wpList_append_own _ rfl _ _ 22 rfl w0.heap.size 3 i0 _ 1 8 Tryd.underlying22 Hi.out Hz0.out Hz1.out Hz2.out rfl (by decide) _ _ _ rfl (hown.out.alloc _) ⟨wr.heap.size, 0, none⟩ 1 1 [iv .i64 0] rfl rfl (cell_one_new _ _ _) (by simp [Value.oneCell', iv]) (by unfold maxLen; omega) (by omega) (by simp; omega) ?_)
        intro v5 w5 hown5 hgrow _
        obtain ⟨g5, cap5, hv5, _⟩ := hown5.form (by omega)
        subst hv5
        have Hown5 : Hid (w5.ownsRow w0.heap.size 3 1 (.slice (some ⟨g5, 0, none⟩) (acc ++ [0]).length cap5) (acc ++ [0]).length ((acc ++ [0]).map (iv .i64))) := Lib.hid (by rw [List.length_append, List.map_append]; exact hown5)
        have HB5 := Lib.hid ((hB.out.alloc (by omega) (.cells #[.int .i64 0] 3)).grown hgrow (by simp; omega) (fun k e => (hown.out.lt k e).1))
        clear hown5 hgrow
        go_wp2
        go_roundw
        case rel => exact ⟨acc ++ [0], q, some ⟨g5, 0, none⟩, cap5, rfl, by simp, Lib.hid (by rw [List.append_assoc]; show acc ++ (0 :: digs T4 q) = _; rw [← hacc.out, Hst.out]), by omega, Hown5, HB5⟩
        case measure => simp [absV]; omega
      · have hkn : -(k : Int) < 0 := by omega
        go_wp2_with (at_builtin; refine wpList_append_own _ rfl _ _ 22 rfl w0.heap.size 3 i0 _ 1 8 Tryd.underlying22 Hi.out Hz0.out Hz1.out Hz2.out rfl (by decide) _ _ _ rfl (hown.out.alloc _) ⟨wr.heap.size, 0, none⟩ 1 1 [iv .i64 k] rfl rfl (cell_one_new _ _ _) (by simp [Value.oneCell', iv]) (by unfold maxLen; omega) (by omega) (by simp; omega) ?_)
        intro v5 w5 hown5 hgrow _
        obtain ⟨g5, cap5, hv5, _⟩ := hown5.form (by omega)
        subst hv5
        have Hown5 : Hid (w5.ownsRow w0.heap.size 3 1 (.slice (some ⟨g5, 0, none⟩) (acc ++ [k]).length cap5) (acc ++ [k]).length ((acc ++ [k]).map (iv .i64))) := Lib.hid (by rw [List.length_append, List.map_append]; exact hown5)
        have HB5 := Lib.hid ((hB.out.alloc (by omega) (.cells #[.int .i64 (k : Int)] 3)).grown hgrow (by simp; omega) (fun k e => (hown.out.lt k e).1))
        clear hown5 hgrow
        go_wp2
        go_roundw
        case rel => exact ⟨acc ++ [k], q, some ⟨g5, 0, none⟩, cap5, rfl, by simp, Lib.hid (by rw [List.append_assoc]; show acc ++ (k :: digs T4 q) = _; rw [← hacc.out, Hst.out]), by omega, Hown5, HB5⟩
        case measure => simp [absV]; omega

theorem of_any (z : Int) (w : World) (h1 : -9223372036854775808 ≤ z) (h2 : z ≤ 9223372036854775807) :
    Calls Tryd.prog 23 #[.int .i64 z] w fun e w' => (∃ vr, e = .returned vr ∧ RInt w' vr z) ∧ Below w.heap.size w w' := by
  rcases Int.lt_or_le z 0 with hz | hz
  · obtain ⟨m, rfl⟩ : ∃ m : Nat, z = -(m : Int) := ⟨z.natAbs, by omega⟩
    exact of_neg m w (by omega) (by omega)
  · obtain ⟨m, rfl⟩ : ∃ m : Nat, z = (m : Int) := ⟨z.natAbs, by omega⟩
    exact of_pos m w (by omega)

end Go.Proofs.YtgfgjnkndfgdiaaDoor
