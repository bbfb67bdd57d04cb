/- worldmintlaw06.spoilt. -/
import Derived.Test.YtlmbebbdamgfpaaQULYMat
set_option linter.unusedVariables false
set_option linter.unusedSimpArgs false
set_option linter.unusedVariables false
set_option linter.unusedSimpArgs false
namespace Go.Proofs.Ytlmbebbdamgfpaa
open Go.RowKit

theorem YMt.nil (w : World) (B n : Nat) : YMt w B (.slice none 0 0) [] n [] := ⟨World.ownsRow_nil _ _ _ _, rfl, fun i h => by simp at h, fun i j h => by simp at h⟩
theorem own_form {w : World} {base : Nat} {e : TypeId} {size : Nat} {v : Value} {n : Nat} {xs : List Value} (h : w.ownsRow base e size v n xs) : ∃ a c, v = .slice a n c ∧ n ≤ c ∧ c ≤ 9223372036854775807 := by
 rcases h.2 with ⟨hv, e⟩ | ⟨g, cap, cur, hv, hb, hh, hn, hm, rest⟩
 ·exact ⟨none, 0, by rw [hv, e], by omega, by omega⟩
 ·exact ⟨_, cap, hv, hn, by unfold maxLen at hm; omega⟩
theorem own_mono {w : World} {base base' : Nat} {e : TypeId} {size : Nat} {v : Value} {n : Nat} {xs : List Value} (h : w.ownsRow base e size v n xs) (hb : base' ≤ base) : w.ownsRow base' e size v n xs := by
 refine ⟨h.1, ?_⟩
 rcases h.2 with h1 | ⟨g, cap, cur, hv, hb', rest⟩
 ·exact .inl h1
 ·exact .inr ⟨g, cap, cur, hv, Nat.le_trans hb hb', rest⟩
/-- a row is appended: the outer block turns -/
theorem YMt.snoc {w w' : World} {B n g : Nat} {v : Value} {c : Nat} {l : List Yw} {M : List (List Int)} {x : Yw} {r : List Int} (h : YMt w B v l n M) (hr : w.ownsRow B 3 1 (yV n x) n (r.map zv)) (hl : r.length = n)
 (hx : ∀ i (hi : i < l.length) b, (yV n l[i]).ownBlock = some b → (yV n x).ownBlock ≠ some b) (ho : Only (fun b => v.ownBlock = some b) w w') (hown : w'.ownsRow B 22 1 (.slice (some ⟨g, 0, none⟩) (l.length + 1) c) (l.length + 1) (l.map (yV n) ++ [yV n x])) : YMt w' B (.slice (some ⟨g, 0, none⟩) (l.length + 1) c) (l ++ [x]) n (M ++ [r]) := by
 have hlen := h.len
 have hrow : ∀ (y : Yw) (rr : List Int), w.ownsRow B 3 1 (yV n y) n (rr.map zv) → w'.ownsRow B 3 1 (yV n y) n (rr.map zv) := fun y rr hy => ho.own hy (fun b hb e => absurd (own_type hy h.own hb e) (by decide))
 refine ⟨by rw [List.length_append, List.map_append]; exact hown, by simp [hlen], fun i hi hi' => ?_, fun i j hi hj b hij hb => ?_⟩
 ·simp only [List.length_append, List.length_singleton] at hi
  by_cases e : i < l.length
  ·rw [List.getElem_append_left e, List.getElem_append_left (by omega)]
   obtain ⟨h1, h2⟩ := h.row i e (by omega)
   exact ⟨hrow _ _ h1, h2⟩
  ·obtain rfl : i = l.length := by omega
   rw [List.getElem_append_right (by omega), List.getElem_append_right (by omega)]
   simp only [hlen, Nat.sub_self, List.getElem_singleton]
   exact ⟨hrow _ _ hr, hl⟩
 ·simp only [List.length_append, List.length_singleton] at hi hj
  by_cases e : i < l.length <;> by_cases e2 : j < l.length
  ·rw [List.getElem_append_left e] at hb
   rw [List.getElem_append_left e2]
   exact h.nodup i j e e2 b hij hb
  ·rw [List.getElem_append_left e] at hb
   rw [List.getElem_append_right (by omega)]
   simpa using hx i e b hb
  ·rw [List.getElem_append_right (by omega)] at hb
   rw [List.getElem_append_left e2]
   simp only [List.getElem_singleton] at hb
   exact fun h9 => hx j e2 b h9 hb
  ·omega

set_option maxRecDepth 100000 in
set_option maxHeartbeats 8000000 in
theorem spoilt_any (w0 : World) (v : Value) (m : List (List Int)) (n : Nat) (at_ k : Int) (h : MatAt w0 v m) (hm : m.length ≤ 1000) (hc : ∀ r ∈ m, r.length = n) (hn : n ≤ 1000) (ha1 : -9223372036854775808 ≤ at_) (ha2 : at_ ≤ 9223372036854775807) :
 Calls Try.prog 12 #[v, .int .i64 at_, .int .i64 k] w0 fun e w' => ∃ u, e = .returned u ∧ (∃ l, YMt w' w0.heap.size u l n (spoilL m n at_ k)) ∧ Below w0.heap.size w0 w' := by
 have H := hZ h
 have HC := hZ hc
 have HB := hZ (Below.refl w0.heap.size w0)
 have HD5 : Hid (-9223372036854775808 ≤ at_.tdiv 5 ∧ at_.tdiv 5 ≤ 9223372036854775807) := hZ (by have h1 : (at_.tdiv 5).natAbs ≤ at_.natAbs / 5 := (by rw [Int.natAbs_tdiv]; exact Nat.le_refl _); omega)
 obtain ⟨av, cv, rfl, q1, q2⟩ := h.form
 clear h hc
 go_enter Try.func12, Try.ntmps12
 go_wp2_with fail
 have HY : Hid (YMt w0 w0.heap.size (.slice none 0 0) [] n (m.take 0)) := hZ (YMt.nil w0 _ n)
 go_loopw [8, 7] (fun i ov wr => ∃ (j : Nat) (ga : Option Addr) (gc : Nat) (l : List Yw), j ≤ m.length ∧ i = .int .i64 j ∧ ov = .slice ga j gc ∧ j ≤ gc ∧ gc ≤ 9223372036854775807 ∧ Hid (l.length = j) ∧ Hid (YMt wr w0.heap.size (.slice ga j gc) l n (m.take j)) ∧ Hid (Below w0.heap.size w0 wr)) (fun i _ _ => m.length - (intOf i).toNat)
 case atStart => exact ⟨0, none, 0, [], by omega, rfl, rfl, by omega, by omega, hZ rfl, HY, HB⟩
 case round =>
  clear HY HB
  obtain ⟨j, ga, gc, l, hj, rfl, rfl, hjc, hgc, HL, HY, HB⟩ := hrel
  obtain ⟨w1, rfl⟩ : ∃ w' : World, w' = wr := ⟨_, rfl⟩
  by_cases hlt : j < m.length
  ·skip
   have j1 : (0 : Int) ≤ (j : Int) := by omega
   have j2 : (j : Int) < (m.length : Int) := by omega
   obtain ⟨b0, cap0, a0, c0, hv0, hb0, n0, HR0, g0, g00⟩ := (H.o.blw HB.o).at_ j hlt
   injection hv0 with f1 f2 f3
   subst f1
   clear f2 f3
   have Hlj : Hid ((m[j]'hlt).length = n) := hZ (HC.o _ (List.getElem_mem _))
   obtain ⟨r, hr⟩ : ∃ r, m[j]'hlt = r := ⟨_, rfl⟩
   rw [hr] at n0 HR0 g0 Hlj
   have HRj := hZ hr
   have HR := hZ HR0
   clear hr HR0
   rw [Hlj.o] at n0 g0
   have HSz := hZ HB.o.size
   have HBl1 := hZ (Below.refl w1.heap.size w1)
   obtain ⟨w2, hw2⟩ : ∃ w', w1.alloc (.cells #[] 3) = w' := ⟨_, rfl⟩
   have hB : Below w1.heap.size w1 w2 := by rw [← hw2]; exact (Below.refl _ _).alloc (Nat.le_refl _) _
   have hl2 : w2.ownsRow w1.heap.size 3 1 (.slice (some ⟨w1.heap.size, 0, none⟩) 0 0) 0 [] := by rw [← hw2]; exact World.ownsRow_lit w1 #[] 0 (Nat.le_refl _) (by decide) rfl
   have n2 := (hB.cell (p := ⟨b0, j, none⟩) hb0).trans n0
   have HB1g : Hid (w1.heap.size < w2.heap.size) := hZ (by rw [← hw2]; simp)
   have HR2 := hZ (HR.o.blw hB)
   rw [Hlj.o] at HR2
   replace hl2 := hZ hl2
   have HS2 := hZ hB.size
   have HY1 : Hid ((∀ g, (Value.slice ga j gc).ownBlock = some g → g < w1.heap.size) ∧ ∀ i (hi : i < l.length) g, (yV n l[i]).ownBlock = some g → g < w1.heap.size) := hZ ⟨fun g hg => (HY.o.own.lt g hg).2, fun i hi g hg => ((HY.o.row i hi (by rw [HY.o.len]; exact hi)).1.lt g hg).2⟩
   replace HY := hZ (HY.o.blw hB)
   replace HB := bT HB hB
   have hB9 := hZ hB; clear hB
   go_wp2_with (at_builtin; refine wpList_appI (W0 := w2) (B := w1.heap.size) elemInt rfl _ _ rfl (.slice (some ⟨w1.heap.size, 0, none⟩) 0 0) (.slice a0 n c0) 0 [] r rfl rfl HR2.o hl2.o (by exact (Below.refl _ _).mono HS2.o) HS2.o (by have := Hlj.o; omega) (by omega) ?_)
   intro v3 w3' ho3 hb3 hon3
   have HB1 := HB
   obtain ⟨w3, rfl⟩ : ∃ w' : World, w' = w3' := ⟨_, rfl⟩
   have ho3b : Hid (w3.ownsRow w1.heap.size 3 1 v3 n (r.map zv)) := hZ (by have h9 := ho3.o; simpa [Hlj.o] using h9)
   obtain ⟨a3, c3, rfl, h3, h4⟩ := own_form ho3b.o
   replace HY := hZ (HY.o.only hon3.o (fun g hg e => by simp only [Value.ownBlock, Option.some.injEq] at e; have := HY1.o.1 g hg; omega) (fun i hi g hg e => by simp only [Value.ownBlock, Option.some.injEq] at e; have := HY1.o.2 i hi g hg; omega))
   replace HB := hZ (HB1.o.trans (hb3.o.mono HSz.o))
   clear ho3 hb3 hon3
   go_wp2_with (at_builtin; refine wpList_app1 (W0 := w0) elemIs rfl _ _ rfl [.slice a3 n c3] 22 (.slice ga j gc) j (l.map (yV n)) rfl rfl rfl (by simp [Value.oneCell']) (by have h9 := HY.o.own; rw [HL.o] at h9; exact h9) HB.o HB.o.size (by omega) (by omega) ?_)
   intro g9 cap9 w9 ho9 hb9 hon9 hc9 hgg
   obtain ⟨w4, rfl⟩ : ∃ w' : World, w' = w9 := ⟨_, rfl⟩
   go_wp2_with fail
   go_roundw
   case rel =>
    have hj1 : j + 1 ≤ cap9 := (by obtain ⟨_, _, e, h5, _⟩ := own_form ho9.o; injection e with _ _ e3; omega)
    refine ⟨j + 1, some ⟨g9, 0, none⟩, cap9, l ++ [(a3, c3)], by omega, by go_num, rfl, hj1, hc9, hZ (by simp [HL.o]), hZ ?_, hb9⟩
    have h9 := YMt.snoc (g := g9) (c := cap9) (x := (a3, c3)) (r := r) HY.o (own_mono ho3b.o HSz.o) Hlj.o (fun i hi b hb e => by have h8 := HY1.o.2 i hi b hb; have h7 := ho3b.o.lt b e; omega) hon9.o (by have h8 := ho9.o; rw [HL.o]; exact h8)
    rw [HL.o] at h9
    rw [List.take_succ_eq_append_getElem hlt, HRj.o]
    exact h9
   case measure => simp [intOf]; omega
  ·skip
   have hjm : j = m.length := by omega
   have HY2 : Hid (YMt w1 w0.heap.size (.slice ga j gc) l n m) := hZ (by have h9 := HY.o; rw [hjm, List.take_length] at h9; rw [hjm]; exact h9)
   clear HY
   have HY := HY2
   clear HY2
   have HL2 : Hid (l.length = m.length) := hZ (by rw [HL.o, hjm])
   have j9 : ¬ (j : Int) < (m.length : Int) := by omega
   by_cases hp : 0 < m.length ∧ 0 < n
   ·skip
    obtain ⟨hm0, hn0⟩ := hp
    have p1 : (0 : Int) < (j : Int) := by omega
    have p2 : (0 : Int) < (n : Int) := by omega
    obtain ⟨R, cR, e9, -, -⟩ : ∃ R cR, (Value.slice ga j gc) = .slice (some ⟨R, 0, none⟩) j cR ∧ True ∧ True := by
     rcases HY.o.own.2 with ⟨e, _⟩ | ⟨g, cap, cur, e, _⟩
     ·injection e with _ e _; omega
     ·exact ⟨g, cap, by rw [e, HL.o], trivial, trivial⟩
    injection e9 with f1 _ f3
    subst f1 f3
    have HOC : Hid (∀ i (hi : i < l.length), w1.cell? ⟨R, i, none⟩ = some (.slice l[i].1 n l[i].2)) := hZ (fun i hi => HY.o.ocell (R := R) (c := gc) (by rw [HL.o]) i hi)
    have har := around_range at_ m.length (by omega)
    have HA1 := hZ (around_any at_ m.length w1 ha1 ha2 (by omega) (by omega))
    have har2 := around_range (at_.tdiv 5) n (by omega)
    have HSp : Hid (spoilL m n at_ k = m.set (around at_ m.length).toNat ((m[(around at_ m.length).toNat]?.getD []).set (around (at_.tdiv 5) n).toNat k)) := hZ (if_pos ⟨hm0, hn0⟩)
    obtain ⟨z, hz⟩ : ∃ z, around at_ m.length = z := ⟨_, rfl⟩
    obtain ⟨i, hi⟩ := Int.eq_ofNat_of_zero_le (show 0 ≤ z by omega)
    subst hi
    rw [hz] at HA1 har HSp
    have hil : i < l.length := by have := HL2.o; omega
    have him : i < m.length := by omega
    obtain ⟨z2, hz2⟩ : ∃ z, around (at_.tdiv 5) n = z := ⟨_, rfl⟩
    obtain ⟨q, hq⟩ := Int.eq_ofNat_of_zero_le (show 0 ≤ z2 by omega)
    subst hq
    rw [hz2] at har2 HSp
    have hqn : q < n := by omega
    rw [Int.toNat_natCast, Int.toNat_natCast, List.getElem?_eq_getElem him, Option.getD_some] at HSp
    have Hz2 := hZ hz2
    clear hz hz2
    have c0 := HOC.o 0 (by omega)
    have ci := HOC.o i hil
    obtain ⟨g, hg, hgB, hgl, hgc⟩ := HY.o.some_ hn0 i hil
    obtain ⟨ci2, hci2⟩ : ∃ c, l[i].2 = c := ⟨_, rfl⟩
    have Hgi := hZ hg
    rw [hg, hci2] at ci
    obtain ⟨a9, ha9⟩ : ∃ a, (l[0]'(by omega)).1 = a := ⟨_, rfl⟩
    obtain ⟨c9, hc9⟩ : ∃ a, (l[0]'(by omega)).2 = a := ⟨_, rfl⟩
    rw [ha9, hc9] at c0
    have HCI := hZ (And.intro c0 ci)
    clear hg ha9 hc9 hci2 ci
    go_wp2_with fail
    clear c0
    refine HA1.o.mono ?_
    rintro e w9 ⟨rfl, hw9⟩
    subst hw9
    clear HA1
    have i1 : (0 : Int) ≤ (i : Int) := by omega
    have i2 : (i : Int) < (j : Int) := by omega
    have i3 : (i : Int) < (m.length : Int) := by omega
    have q1' : (0 : Int) ≤ (q : Int) := by omega
    have q2' : (q : Int) < (n : Int) := by omega
    go_wp2_with fail
    have HRl : Hid (R < w1.heap.size) := hZ (HY.o.own.lt R rfl).2
    have HD := hZ (Below.refl w1.heap.size w1)
    obtain ⟨w2, hwd⟩ : ∃ w', w1.drew = w' := ⟨_, rfl⟩
    have hB := dB hwd
    replace HY := hZ (HY.o.blw hB)
    replace HB := bT HB hB
    replace HD := bT HD hB
    clear hB
    have HBr : Hid (Only (fun b => False) w2 w2) := hZ (Only.refl _ _)
    refine startL [13] (fun w' => Only (fun b => False) w2 w') (by kernel_rfl) (by rw [hwd]; exact Only.refl _ _) (fun hHeld => ?_)
    rw [hwd] at hHeld ⊢
    clear hwd
    have c0 := (HD.o.cell (p := ⟨R, 0, none⟩) HRl.o).trans HCI.o.1
    have ci := (HD.o.cell (p := ⟨R, i, none⟩) HRl.o).trans HCI.o.2
    have hlR := Nat.lt_of_lt_of_le HRl.o HD.o.size
    refine pP 0 39 (v := ?_) rfl rfl ?_ ?_
    rotate_left
    ·(intro w; go_simp; first | done | with_reducible rfl)
    simp only [sX1, sX2, sX3]
    refine pP 1 40 (v := ?_) rfl rfl ?_ ?_
    rotate_left
    ·(intro w; go_simp; first | done | with_reducible rfl)
    simp only [sX1, sX2, sX3]
    refine pP 2 41 (v := ?_) rfl rfl ?_ ?_
    rotate_left
    ·(intro w; go_simp; first | done | with_reducible rfl)
    simp only [sX1, sX2, sX3]
    refine tP 3 42 (v := ?_) rfl rfl ?_ ?_
    rotate_left
    ·(intro w hSw; have x0 := (hSw.cell (p := ⟨R, i, none⟩) (fun h => h) hlR).trans ci; go_simp; first | done | with_reducible rfl)
    simp only [sX1, sX2, sX3]
    refine pP 4 43 (v := ?_) rfl rfl ?_ ?_
    rotate_left
    ·(intro w; go_simp; first | done | with_reducible rfl)
    simp only [sX1, sX2, sX3]
    refine pP 5 44 (v := ?_) rfl rfl ?_ ?_
    rotate_left
    ·(intro w; go_simp; first | done | with_reducible rfl)
    simp only [sX1, sX2, sX3]
    refine pP 6 45 (v := ?_) rfl rfl ?_ ?_
    rotate_left
    ·(intro w; go_simp; first | done | with_reducible rfl)
    simp only [sX1, sX2, sX3]
    refine pP 7 46 (v := ?_) rfl rfl ?_ ?_
    rotate_left
    ·(intro w; go_simp; first | done | with_reducible rfl)
    simp only [sX1, sX2, sX3]
    refine tP 8 47 (v := ?_) rfl rfl ?_ ?_
    rotate_left
    ·(intro w hSw; have x0 := (hSw.cell (p := ⟨R, 0, none⟩) (fun h => h) hlR).trans c0; go_simp; first | done | with_reducible rfl)
    simp only [sX1, sX2, sX3]
    refine pP 9 48 (v := ?_) rfl rfl ?_ ?_
    rotate_left
    ·(intro w; go_simp; first | done | with_reducible rfl)
    simp only [sX1, sX2, sX3]
    refine pP 11 50 (v := ?_) rfl rfl ?_ ?_
    rotate_left
    ·(intro w; go_simp; first | done | with_reducible rfl)
    simp only [sX1, sX2, sX3]
    clear c0 ci hlR
    refine stepL 10 (by kernel_rfl) rfl (fun K hK => ?_)
    go_simp
    have hA2 := around_any (at_.tdiv 5) n w2 HD5.o.1 HD5.o.2 (by omega) (by omega)
    rw [Hz2.o] at hA2
    try rw [show IntKind.i64.wrap (at_.tdiv 5) = at_.tdiv 5 from IntWalk.i64_in _ HD5.o]
    refine hA2.mono ?_
    rintro e w9 ⟨rfl, hw9⟩
    subst hw9
    clear hA2
    refine hK.out _ _ HBr.o (fun hHeld => ?_)
    clear hK K
    try simp only [Act.put, sX1, sX2, sX3]
    refine pP 12 51 (v := ?_) rfl rfl ?_ ?_
    rotate_left
    ·(intro w; go_simp; first | done | with_reducible rfl)
    simp only [sX1, sX2, sX3]
    obtain ⟨u9, e1⟩ : ∃ u, w2.cell? ⟨g, q, none⟩ = some u := ⟨_, HY.o.cell i hil Hgi.o q hqn him (by rw [HC.o _ (List.getElem_mem _)]; exact hqn)⟩
    have e2 := HY.o.frozen i hil Hgi.o q
    have HYn := hZ (HY.o.put (j := q) hil him Hgi.o k)
    obtain ⟨w3, hw⟩ : ∃ w', w2.setCell ⟨g, q, none⟩ (.int .i64 k) = w' := ⟨_, rfl⟩
    rw [hw, ← HSp.o] at HYn
    have ho : Only (fun b => b = g) w2 w3 := by rw [← hw]; exact (Only.refl (fun b => b = g) _).set (p := ⟨g, q, none⟩) rfl _
    replace HB := hZ (below_only HB.o ho (fun b e => by omega) HB.o.size)
    clear ho
    refine lateL 13 (by kernel_rfl) (by decide) rfl (fun K hK => ?_)
    go_simp
    try rw [hw]
    refine hK.out _ _ ?_
    clear hK K
    try simp only [Act.put, sX1, sX2, sX3]
    clear hw e1 e2
    refine doneL (by kernel_rfl) ?_ _
    clear hHeld
    go_wp2_with fail
    go_ret
    exact ⟨_, rfl, ⟨l, by have h9 := HYn.o; rw [hjm] at h9; exact h9⟩, HB.o⟩
   ·skip
    have HS : Hid (spoilL m n at_ k = m) := hZ (if_neg hp)
    by_cases hm0 : 0 < m.length
    ·skip
     have hn0 : n = 0 := by omega
     have p1 : (0 : Int) < (j : Int) := by omega
     obtain ⟨R, cR, e9, p2, p3⟩ : ∃ R cR, (Value.slice ga j gc) = .slice (some ⟨R, 0, none⟩) j cR ∧ True ∧ True := by
      rcases HY.o.own.2 with ⟨e, _⟩ | ⟨g, cap, cur, e, _⟩
      ·injection e with _ e _; omega
      ·exact ⟨g, cap, by rw [e, HL.o], trivial, trivial⟩
     injection e9 with f1 _ f3
     subst f1 f3
     have c0 := HY.o.ocell (R := R) (c := gc) (by rw [HL.o]) 0 (by have := HL.o; omega)
     obtain ⟨a9, ha9⟩ : ∃ a, l[0]'(by have := HL.o; omega) = a := ⟨_, rfl⟩
     rw [ha9, hn0] at c0
     clear ha9 hn0
     have HYf := HY
     rw [← HS.o] at HYf
     go_wp2_with fail
     go_ret
     exact ⟨_, rfl, ⟨l, by have h9 := HYf.o; rw [hjm] at h9; exact h9⟩, HB.o⟩
    ·skip
     have p1 : ¬ (0 : Int) < (j : Int) := by omega
     have HYf := HY
     rw [← HS.o] at HYf
     go_wp2_with fail
     go_ret
     exact ⟨_, rfl, ⟨l, by have h9 := HYf.o; rw [hjm] at h9; exact h9⟩, HB.o⟩
end Go.Proofs.Ytlmbebbdamgfpaa
