/- the reference's integers: minus. -/
import Derived.Test.YtlmbebbdamgfpaaQJLYMat
import Derived.Test.YtlmbebbdamgfpaaQJLHnf
import Derived.Test.YtlmbebbdamgfpaaQJLawLMany
import Derived.Test.YtlmbebbdamgfpaaQJWSubtr
import Derived.Laws.OwnMore
import Derived.Deep.AppendLies
set_option linter.unusedVariables false
set_option linter.unusedSimpArgs false
set_option maxHeartbeats 8000000
set_option maxRecDepth 100000
namespace Go.Proofs.Ytlmbebbdamgfpaa
open Go.RowKit
theorem YMt.nil (w : World) (B n : Nat) : YMt w B (.slice none 0 0) [] n [] := ⟨World.ownsRow_nil _ _ _ _, rfl, fun i h => by simp at h, fun i j h => by simp at h⟩
theorem qEZ {w : World} {base : Nat} {e : TypeId} {size : Nat} {v : Value} {n : Nat} {xs : List Value} (h : w.ownsRow base e size v n xs) : ∃ a c, v = .slice a n c /\ n <= c /\ c <= 9223372036854775807 := by
 rcases h.2 with ⟨hv, e⟩ | ⟨g, cap, cur, hv, hb, hh, hn, hm, rest⟩
 ·exact ⟨none, 0, by rw [hv, e], by omega, by omega⟩
 ·exact ⟨_, cap, hv, hn, by unfold maxLen at hm; omega⟩
theorem qHm {w : World} {base base' : Nat} {e : TypeId} {size : Nat} {v : Value} {n : Nat} {xs : List Value} (h : w.ownsRow base e size v n xs) (hb : base' <= base) : w.ownsRow base' e size v n xs := by
 refine ⟨h.1, ?_⟩; rcases h.2 with h1 | ⟨g, cap, cur, hv, hb', rest⟩
 ·exact .inl h1
 ·exact .inr ⟨g, cap, cur, hv, Nat.le_trans hb hb', rest⟩
theorem YMt.snoc {w w' : World} {B n g : Nat} {v : Value} {c : Nat} {l : List Yw} {M : List (List Int)} {x : Yw} {r : List Int} (h : YMt w B v l n M) (hr : w.ownsRow B 3 1 (yV n x) n (r.map zv)) (hl : r.length = n)
 (hx : ∀ i (hi : i < l.length) b, (yV n l[i]).ownBlock = some b -> (yV n x).ownBlock ≠ some b) (ho : qAb (fun b => v.ownBlock = some b) w w') (hown : w'.ownsRow B 22 1 (.slice (some ⟨g, 0, none⟩) (l.length + 1) c) (l.length + 1) (l.map (yV n) ++ [yV n x])) : YMt w' B (.slice (some ⟨g, 0, none⟩) (l.length + 1) c) (l ++ [x]) n (M ++ [r]) := by
 have hlen := h.len; have hrow : ∀ (y : Yw) (rr : List Int), w.ownsRow B 3 1 (yV n y) n (rr.map zv) -> w'.ownsRow B 3 1 (yV n y) n (rr.map zv) := fun y rr hy => ho.own hy (fun b hb e => absurd (qHk hy h.own hb e) (by decide)); refine ⟨by rw [List.length_append, List.map_append]; exact hown, by simp [hlen], fun i hi hi' => ?_, fun i j hi hj b hij hb => ?_⟩
 ·simp only [List.length_append, List.length_singleton] at hi
  by_cases e : i < l.length
  ·rw [List.getElem_append_left e, List.getElem_append_left (by omega)]
   obtain ⟨h1, h2⟩ := h.row i e (by omega); exact ⟨hrow _ _ h1, h2⟩
  ·obtain rfl : i = l.length := by omega
   rw [List.getElem_append_right (by omega), List.getElem_append_right (by omega)]; simp only [hlen, Nat.sub_self, List.getElem_singleton]; exact ⟨hrow _ _ hr, hl⟩
 ·simp only [List.length_append, List.length_singleton] at hi hj
  by_cases e : i < l.length <;> by_cases e2 : j < l.length
  ·rw [List.getElem_append_left e] at hb
   rw [List.getElem_append_left e2]; exact h.nodup i j e e2 b hij hb
  ·rw [List.getElem_append_left e] at hb
   rw [List.getElem_append_right (by omega)]; simpa using hx i e b hb
  ·rw [List.getElem_append_right (by omega)] at hb
   rw [List.getElem_append_left e2]; simp only [List.getElem_singleton] at hb; exact fun h9 => hx j e2 b h9 hb
  ·omega
theorem qHZ (w0 : World) (v : Value) (m : List (List Int)) (n : Nat) (at_ k : Int) (h : qAD w0 v m) (hm : m.length <= 1000) (hc : ∀ r ∈ m, r.length = n) (hn : n <= 1000) (ha1 : -9223372036854775808 <= at_) (ha2 : at_ <= 9223372036854775807) :
 Calls Try.prog 12 #[v, .int .i64 at_, .int .i64 k] w0 fun e w' => ∃ u, e = .returned u /\ (∃ l, YMt w' w0.heap.size u l n (qDB m n at_ k)) /\ Below w0.heap.size w0 w' := by
 have H := hZ h; have HC := hZ hc; have HB := hZ (Below.refl w0.heap.size w0); have HD5 : Hid (-9223372036854775808 <= at_.tdiv 5 /\ at_.tdiv 5 <= 9223372036854775807) := hZ (by have h1 : (at_.tdiv 5).natAbs <= at_.natAbs / 5 := (by rw [Int.natAbs_tdiv]; exact Nat.le_refl _); omega); obtain ⟨av, cv, rfl, q1, q2⟩ := h.form; clear h hc
 go_enter Try.func12, Try.ntmps12
 go_wp2_with fail
 have HY : Hid (YMt w0 w0.heap.size (.slice none 0 0) [] n (m.take 0)) := hZ (YMt.nil w0 _ n)
 go_loopw [8, 7] (fun i ov wr => ∃ (j : Nat) (ga : Option Addr) (gc : Nat) (l : List Yw), j <= m.length /\ i = .int .i64 j /\ ov = .slice ga j gc /\ j <= gc /\ gc <= 9223372036854775807 /\ Hid (l.length = j) /\ Hid (YMt wr w0.heap.size (.slice ga j gc) l n (m.take j)) /\ Hid (Below w0.heap.size w0 wr)) (fun i _ _ => m.length - (intOf i).toNat)
 case atStart => exact ⟨0, none, 0, [], by omega, rfl, rfl, by omega, by omega, hZ rfl, HY, HB⟩
 case round =>
  clear HY HB; obtain ⟨j, ga, gc, l, hj, rfl, rfl, hjc, hgc, HL, HY, HB⟩ := hrel; obtain ⟨w1, rfl⟩ := eY wr; by_cases hlt : j < m.length
  ·skip
   have j1 : (0 : Int) <= (j : Int) := by omega
   have j2 : (j : Int) < (m.length : Int) := by omega
   obtain ⟨b0, cap0, a0, c0, hv0, hb0, n0, HR0, g0, g00⟩ := (H.o.blw HB.o).at_ j hlt; injection hv0 with f1 f2 f3; subst f1; clear f2 f3; have Hlj : Hid ((m[j]'hlt).length = n) := hZ (HC.o _ (List.getElem_mem _)); obtain ⟨r, hr⟩ := eX (m[j]'hlt); rw [hr] at n0 HR0 g0 Hlj; have HRj := hZ hr; have HR := hZ HR0; clear hr HR0; rw [Hlj.o] at n0 g0; have HSz := hZ HB.o.size; have HBl1 := hZ (Below.refl w1.heap.size w1); obtain ⟨w2, hw2⟩ := eX (w1.alloc (.cells #[] 3)); have hB : Below w1.heap.size w1 w2 := by rw [<- hw2]; exact (Below.refl _ _).alloc (Nat.le_refl _) _
   have hl2 : w2.ownsRow w1.heap.size 3 1 (.slice (some ⟨w1.heap.size, 0, none⟩) 0 0) 0 [] := by rw [<- hw2]; exact World.ownsRow_lit w1 #[] 0 (Nat.le_refl _) (by decide) rfl
   have n2 := (hB.cell (p := ⟨b0, j, none⟩) hb0).trans n0; have HB1g : Hid (w1.heap.size < w2.heap.size) := hZ (by rw [<- hw2]; simp); have HR2 := hZ (HR.o.blw hB); rw [Hlj.o] at HR2; replace hl2 := hZ hl2; have HS2 := hZ hB.size; have HY1 : Hid ((∀ g, (Value.slice ga j gc).ownBlock = some g -> g < w1.heap.size) /\ ∀ i (hi : i < l.length) g, (yV n l[i]).ownBlock = some g -> g < w1.heap.size) := hZ ⟨fun g hg => (HY.o.own.lt g hg).2, fun i hi g hg => ((HY.o.row i hi (by rw [HY.o.len]; exact hi)).1.lt g hg).2⟩; replace HY := HY.b hB; replace HB := bT HB hB; have hB9 := hZ hB; clear hB
   go_wp2_with (at_builtin; refine qDM (W0 := w2) (B := w1.heap.size) qFa rfl _ _ rfl (.slice (some ⟨w1.heap.size, 0, none⟩) 0 0) (.slice a0 n c0) 0 [] r rfl rfl HR2.o hl2.o (by exact (Below.refl _ _).mono HS2.o) HS2.o (by have := Hlj.o; omega) (by omega) ?_)
   intro v3 w3' ho3 hb3 hon3; have HB1 := HB; obtain ⟨w3, rfl⟩ := eY w3'; have ho3b : Hid (w3.ownsRow w1.heap.size 3 1 v3 n (r.map zv)) := hZ (by have h9 := ho3.o; simpa [Hlj.o] using h9); obtain ⟨a3, c3, rfl, h3, h4⟩ := qEZ ho3b.o; replace HY := hZ (HY.o.only hon3.o (fun g hg e => by simp only [Value.ownBlock, Option.some.injEq] at e; have := HY1.o.1 g hg; omega) (fun i hi g hg e => by simp only [Value.ownBlock, Option.some.injEq] at e; have := HY1.o.2 i hi g hg; omega)); replace HB := hZ (HB1.o.trans (hb3.o.mono HSz.o)); clear ho3 hb3 hon3
   go_wp2_with (at_builtin; refine qBH (W0 := w0) qJe rfl _ _ rfl [.slice a3 n c3] 22 (.slice ga j gc) j (l.map (yV n)) rfl rfl rfl (by simp [Value.oneCell']) (by have h9 := HY.o.own; rw [HL.o] at h9; exact h9) HB.o HB.o.size (by omega) (by omega) ?_)
   intro g9 cap9 w9 ho9 hb9 hon9 hc9 hgg; obtain ⟨w4, rfl⟩ := eY w9
   go_wp2_with fail
   go_roundw
   case rel =>
    have hj1 : j + 1 <= cap9 := (by obtain ⟨_, _, e, h5, _⟩ := qEZ ho9.o; injection e with _ _ e3; omega); refine ⟨j + 1, some ⟨g9, 0, none⟩, cap9, l ++ [(a3, c3)], by omega, by go_num, rfl, hj1, hc9, hZ (by simp [HL.o]), hZ ?_, hb9⟩; have h9 := YMt.snoc (g := g9) (c := cap9) (x := (a3, c3)) (r := r) HY.o (qHm ho3b.o HSz.o) Hlj.o (fun i hi b hb e => by have h8 := HY1.o.2 i hi b hb; have h7 := ho3b.o.lt b e; omega) hon9.o (by have h8 := ho9.o; rw [HL.o]; exact h8); rw [HL.o] at h9; rw [List.take_succ_eq_append_getElem hlt, HRj.o]; exact h9
   case measure => simp [intOf]; omega
  ·skip
   have hjm : j = m.length := by omega
   have HY2 : Hid (YMt w1 w0.heap.size (.slice ga j gc) l n m) := hZ (by have h9 := HY.o; rw [hjm, List.take_length] at h9; rw [hjm]; exact h9); clear HY; have HY := HY2; clear HY2; have HL2 : Hid (l.length = m.length) := hZ (by rw [HL.o, hjm]); have j9 : ¬ (j : Int) < (m.length : Int) := by omega
   by_cases hp : 0 < m.length /\ 0 < n
   ·skip
    obtain ⟨hm0, hn0⟩ := hp; have p1 : (0 : Int) < (j : Int) := by omega
    have p2 : (0 : Int) < (n : Int) := by omega
    obtain ⟨R, cR, e9, -, -⟩ : ∃ R cR, (Value.slice ga j gc) = .slice (some ⟨R, 0, none⟩) j cR /\ True /\ True := by
     rcases HY.o.own.2 with ⟨e, _⟩ | ⟨g, cap, cur, e, _⟩
     ·injection e with _ e _; omega
     ·exact ⟨g, cap, by rw [e, HL.o], trivial, trivial⟩
    injection e9 with f1 _ f3; subst f1 f3; have HOC : Hid (∀ i (hi : i < l.length), w1.cell? ⟨R, i, none⟩ = some (.slice l[i].1 n l[i].2)) := hZ (fun i hi => HY.o.ocell (R := R) (c := gc) (by rw [HL.o]) i hi); have har := qBf at_ m.length (by omega); have HA1 := hZ (qCe at_ m.length w1 ha1 ha2 (by omega) (by omega)); have har2 := qBf (at_.tdiv 5) n (by omega); have HSp : Hid (qDB m n at_ k = m.set (qBk at_ m.length).toNat ((m[(qBk at_ m.length).toNat]?.getD []).set (qBk (at_.tdiv 5) n).toNat k)) := hZ (if_pos ⟨hm0, hn0⟩); obtain ⟨z, hz⟩ := eX (qBk at_ m.length); obtain ⟨i, hi⟩ := Int.eq_ofNat_of_zero_le (show 0 <= z by omega); subst hi; rw [hz] at HA1 har HSp; have hil : i < l.length := by have := HL2.o; omega
    have him : i < m.length := by omega
    obtain ⟨z2, hz2⟩ := eX (qBk (at_.tdiv 5) n); obtain ⟨q, hq⟩ := Int.eq_ofNat_of_zero_le (show 0 <= z2 by omega); subst hq; rw [hz2] at har2 HSp; have hqn : q < n := by omega
    rw [Int.toNat_natCast, Int.toNat_natCast, List.getElem?_eq_getElem him, Option.getD_some] at HSp; have Hz2 := hZ hz2; clear hz hz2; have c0 := HOC.o 0 (by omega); have ci := HOC.o i hil; obtain ⟨g, hg, hgB, hgl, hgc⟩ := HY.o.some_ hn0 i hil; obtain ⟨ci2, hci2⟩ := eX (l[i].2); have Hgi := hZ hg; rw [hg, hci2] at ci; obtain ⟨a9, ha9⟩ := eX ((l[0]'(by omega)).1); obtain ⟨c9, hc9⟩ := eX ((l[0]'(by omega)).2); rw [ha9, hc9] at c0; have HCI := hZ (And.intro c0 ci); clear hg ha9 hc9 hci2 ci
    go_wp2_with fail
    clear c0; refine HA1.o.mono ?_; rintro e w9 ⟨rfl, hw9⟩; subst hw9; clear HA1; have i1 : (0 : Int) <= (i : Int) := by omega
    have i2 : (i : Int) < (j : Int) := by omega
    have i3 : (i : Int) < (m.length : Int) := by omega
    have q1' : (0 : Int) <= (q : Int) := by omega
    have q2' : (q : Int) < (n : Int) := by omega
    go_wp2_with fail
    have HRl : Hid (R < w1.heap.size) := hZ (HY.o.own.lt R rfl).2; have HD := hZ (Below.refl w1.heap.size w1); obtain ⟨w2, hwd⟩ := eX w1.drew; have hB := dB hwd; replace HY := HY.b hB; replace HB := bT HB hB; replace HD := bT HD hB; clear hB; have HBr : Hid (qAb (fun b => False) w2 w2) := hZ (qAb.refl _ _); refine qAs [13] (fun w' => qAb (fun b => False) w2 w') (by kernel_rfl) (by rw [hwd]; exact qAb.refl _ _) (fun hHeld => ?_); rw [hwd] at hHeld ⊢; clear hwd; have c0 := (HD.o.cell (p := ⟨R, 0, none⟩) HRl.o).trans HCI.o.1; have ci := (HD.o.cell (p := ⟨R, i, none⟩) HRl.o).trans HCI.o.2; have hlR := Nat.lt_of_lt_of_le HRl.o HD.o.size; refine pU 0 39 ?_; refine pU 1 40 ?_; refine pU 2 41 ?_; refine tU 3 42 (cF ci hlR) ?_; refine pU 4 43 ?_; refine pU 5 44 ?_; refine pU 6 45 ?_; refine pU 7 46 ?_; refine tU 8 47 (cF c0 hlR) ?_; refine pU 9 48 ?_; refine pU 11 50 ?_; clear c0 ci hlR; refine eU 10 fun K hK => ?_; go_simp; have hA2 := qCe (at_.tdiv 5) n w2 HD5.o.1 HD5.o.2 (by omega) (by omega); rw [Hz2.o] at hA2
    try rw [show IntKind.i64.wrap (at_.tdiv 5) = at_.tdiv 5 from IntWalk.i64_in _ HD5.o]
    refine hA2.mono ?_; rintro e w9 ⟨rfl, hw9⟩; subst hw9; clear hA2; refine hK.out _ _ HBr.o (fun hHeld => ?_); clear hK K
    try simp only [Act.put, sX1, sX2, sX3]
    refine pU 12 51 ?_; obtain ⟨u9, e1⟩ : ∃ u, w2.cell? ⟨g, q, none⟩ = some u := ⟨_, HY.o.cell i hil Hgi.o q hqn him (by rw [HC.o _ (List.getElem_mem _)]; exact hqn)⟩; have e2 := HY.o.frozen i hil Hgi.o q; have HYn := hZ (HY.o.put (j := q) hil him Hgi.o k); obtain ⟨w3, hw⟩ := eX (w2.setCell ⟨g, q, none⟩ (.int .i64 k)); rw [hw, <- HSp.o] at HYn; have ho : qAb (fun b => b = g) w2 w3 := by rw [<- hw]; exact (qAb.refl (fun b => b = g) _).set (p := ⟨g, q, none⟩) rfl _
    replace HB := hZ (qAn HB.o ho (fun b e => by omega) HB.o.size); clear ho; refine lU 13 fun K hK => ?_; go_simp
    try rw [hw]
    refine hK.out _ _ ?_; clear hK K
    try simp only [Act.put, sX1, sX2, sX3]
    clear hw e1 e2; refine dU ?_; clear hHeld
    go_wp2_with fail
    go_ret; exact ⟨_, rfl, ⟨l, by have h9 := HYn.o; rw [hjm] at h9; exact h9⟩, HB.o⟩
   ·skip
    have HS : Hid (qDB m n at_ k = m) := hZ (if_neg hp); by_cases hm0 : 0 < m.length
    ·skip
     have hn0 : n = 0 := by omega
     have p1 : (0 : Int) < (j : Int) := by omega
     obtain ⟨R, cR, e9, p2, p3⟩ : ∃ R cR, (Value.slice ga j gc) = .slice (some ⟨R, 0, none⟩) j cR /\ True /\ True := by
      rcases HY.o.own.2 with ⟨e, _⟩ | ⟨g, cap, cur, e, _⟩
      ·injection e with _ e _; omega
      ·exact ⟨g, cap, by rw [e, HL.o], trivial, trivial⟩
     injection e9 with f1 _ f3; subst f1 f3; have c0 := HY.o.ocell (R := R) (c := gc) (by rw [HL.o]) 0 (by have := HL.o; omega); obtain ⟨a9, ha9⟩ := eX (l[0]'(by have := HL.o; omega)); rw [ha9, hn0] at c0; clear ha9 hn0; have HYf := HY; rw [<- HS.o] at HYf
     go_wp2_with fail
     go_ret; exact ⟨_, rfl, ⟨l, by have h9 := HYf.o; rw [hjm] at h9; exact h9⟩, HB.o⟩
    ·skip
     have p1 : ¬ (0 : Int) < (j : Int) := by omega
     have HYf := HY; rw [<- HS.o] at HYf
     go_wp2_with fail
     go_ret; exact ⟨_, rfl, ⟨l, by have h9 := HYf.o; rw [hjm] at h9; exact h9⟩, HB.o⟩
open Go.RowKit
def qEh (w : World) (us : List Value) (m : List (List Int)) : Prop := us.length = m.length /\ ∀ j (h : j < us.length) (h' : j < m.length), qAm w us[j] m[j]
theorem qEh.blw {w w' : World} {us : List Value} {m : List (List Int)} (h : qEh w us m) (hb : Below w.heap.size w w') : qEh w' us m := ⟨h.1, fun j h1 h2 => (h.2 j h1 h2).below hb⟩
instance {w w' : World} {us : List Value} {m : List (List Int)} : Mv w w' (qEh w us m) (qEh w' us m) := ⟨fun hb h => qEh.blw h hb⟩
theorem qEh.snoc {w : World} {us : List Value} {m : List (List Int)} {u : Value} {r : List Int} (h : qEh w us m) (hu : qAm w u r) : qEh w (us ++ [u]) (m ++ [r]) := by
 have hl := h.1; refine ⟨by simp [hl], fun j h1 h2 => ?_⟩; simp only [List.length_append, List.length_singleton] at h1 h2; by_cases e : j < us.length
 ·rw [List.getElem_append_left e, List.getElem_append_left (by omega)]
  exact h.2 j e (by omega)
 ·rw [List.getElem_append_right (by omega), List.getElem_append_right (by omega)]
  simpa using hu
theorem qEh.mat {w : World} {base : Nat} {v : Value} {n : Nat} {us : List Value} {m : List (List Int)} (h : qEh w us m) (ho : w.ownsRow base 22 1 v n us) (hn : n = us.length) : qAD w v m := by
 subst hn; refine qAh.of_own (css := us.map (fun u => [u])) (base := base) (e := 22) (by rw [qBq, List.length_map]; simpa using ho) (fun cs h => by obtain ⟨x, _, rfl⟩ := List.mem_map.1 h; rfl) (by rw [List.length_map]; exact h.1) (fun j h1 h2 => ?_); have h3 : j < us.length := by rw [h.1]; exact h1
 rw [List.getElem_map]; exact ⟨_, rfl, h.2 j h3 h1⟩
def qGk (w : World) (b : Nat) : Prop := b < w.heap.size /\ ∀ j, j < 3 -> ∃ a c M, w.cell? ⟨b, j, none⟩ = some (.slice a M.length c) /\ qAD w (.slice a M.length c) M /\ M.length <= 6
theorem qGk.blw {w w' : World} {b : Nat} (h : qGk w b) (hb : Below w.heap.size w w') : qGk w' b :=
 ⟨Nat.lt_of_lt_of_le h.1 hb.size, fun j hj => by obtain ⟨a, c, M, h1, h2, h3⟩ := h.2 j hj; exact ⟨a, c, M, (hb.cell (p := ⟨b, j, none⟩) h.1).trans h1, h2.below hb, h3⟩⟩
instance {w w' : World} {b : Nat} : Mv w w' (qGk w b) (qGk w' b) := ⟨fun hb h => qGk.blw h hb⟩
theorem qGk.mk {w : World} {x y z : Value} {A B C : List (List Int)} (h1 : qAD w x A) (h2 : qAD w y B) (h3 : qAD w z C) (l1 : A.length <= 6) (l2 : B.length <= 6) (l3 : C.length <= 6) : qGk (w.alloc (.cells #[x, y, z] 23)) w.heap.size := by
 have hb : Below w.heap.size w (w.alloc (.cells #[x, y, z] 23)) := (Below.refl _ _).alloc (Nat.le_refl _) _; obtain ⟨a1, c1, rfl, -, -⟩ := h1.form; obtain ⟨a2, c2, rfl, -, -⟩ := h2.form; obtain ⟨a3, c3, rfl, -, -⟩ := h3.form; refine ⟨by simp, fun j hj => ?_⟩; rcases (show j = 0 \/ j = 1 \/ j = 2 by omega) with rfl | rfl | rfl
 ·exact ⟨a1, c1, A, by rw [cell_of_row _ w.heap.size 0 _ 23 (0, 0) (heap_alloc_new w _)]; rfl, h1.below hb, l1⟩
 ·exact ⟨a2, c2, B, by rw [cell_of_row _ w.heap.size 1 _ 23 (0, 0) (heap_alloc_new w _)]; rfl, h2.below hb, l2⟩
 ·exact ⟨a3, c3, C, by rw [cell_of_row _ w.heap.size 2 _ 23 (0, 0) (heap_alloc_new w _)]; rfl, h3.below hb, l3⟩
def qEK (G : List (List Int) -> Prop) (z : Int) (H : List (List Int)) : Prop := ∃ H', G H' /\ (((∃ r ∈ H', ∃ x ∈ r, ¬ qEm x) /\ z = 4 /\ H = []) \/ ((∀ r ∈ H', ∀ x ∈ r, qEm x) /\ z = 0 /\ H = H'))
theorem qEK.uniq {G : List (List Int) -> Prop} (hG : ∀ A B, G A -> G B -> A = B) {z z' : Int} {H H' : List (List Int)} (h : qEK G z H) (h' : qEK G z' H') : z = z' /\ H = H' := by
 obtain ⟨A, h1, h2⟩ := h; obtain ⟨B, k1, k2⟩ := h'; obtain rfl := hG A B h1 k1; rcases h2 with ⟨⟨r, hr, x, hx, h9⟩, rfl, rfl⟩ | ⟨h2, rfl, rfl⟩ <;> rcases k2 with ⟨⟨r', hr', x', hx', h9'⟩, rfl, rfl⟩ | ⟨k2, rfl, rfl⟩
 ·exact ⟨rfl, rfl⟩
 ·exact absurd (k2 r hr x hx) h9
 ·exact absurd (h2 r' hr' x' hx') h9'
 ·exact ⟨rfl, rfl⟩
theorem qBl.val {G : List (List Int) -> Prop} {H' : List (List Int)} {e : Ending} {w' : World} (h : qBl H' e w') (hG : G H') : ∃ u z H, e = .returned (.tuple #[u, .int .i64 z]) /\ qAD w' u H /\ qEK G z H := by
 rcases h with ⟨rfl, h1⟩ | ⟨u, rfl, h1, h2⟩
 ·exact ⟨_, _, [], rfl, qAh.nil _ 0 (by omega), H', hG, .inl ⟨h1, rfl, rfl⟩⟩
 ·exact ⟨u, _, H', rfl, h1, H', hG, .inr ⟨h2, rfl, rfl⟩⟩
def qMp (m H : List (List Int)) : Prop := qAC (m.map vec) 0 (H.map vec) /\ ∀ r ∈ H, r.length = qAM m
def qML (m H : List (List Int)) : Prop := qB8 m (H.map vec) /\ ∀ r ∈ H, r.length = m.length
def qDv (m : List (List Int)) (z : Int) (H : List (List Int)) : Prop := (qAF m ≠ 0 /\ z = qAF m /\ H = []) \/ (qAF m = 0 /\ qEK (qMp m) z H)
def qHS (m : List (List Int)) (z : Int) (H : List (List Int)) : Prop := (qAF m ≠ 0 /\ z = qAF m /\ H = []) \/ (qAF m = 0 /\ qEK (qML m) z H)
theorem qDv.uniq {m : List (List Int)} {z z' : Int} {H H' : List (List Int)} (h : qDv m z H) (h' : qDv m z' H') : z = z' /\ H = H' := by
 rcases h with ⟨h1, rfl, rfl⟩ | ⟨h1, h2⟩ <;> rcases h' with ⟨k1, rfl, rfl⟩ | ⟨k1, k2⟩
 ·exact ⟨rfl, rfl⟩
 ·exact absurd k1 h1
 ·exact absurd h1 k1
 ·exact h2.uniq (fun A B a b => qBO a.2 b.2 (a.1.uniq b.1)) k2
theorem qHS.uniq {m : List (List Int)} {z z' : Int} {H H' : List (List Int)} (h : qHS m z H) (h' : qHS m z' H') : z = z' /\ H = H' := by
 rcases h with ⟨h1, rfl, rfl⟩ | ⟨h1, h2⟩ <;> rcases h' with ⟨k1, rfl, rfl⟩ | ⟨k1, k2⟩
 ·exact ⟨rfl, rfl⟩
 ·exact absurd k1 h1
 ·exact absurd h1 k1
 ·exact h2.uniq (fun A B a b => qBO a.2 b.2 (a.1.uniq b.1)) k2
theorem qCG.val {w0 w' : World} {m : List (List Int)} {e : Ending} (h : qCG w0 m e w') : Below w0.heap.size w0 w' /\ ∃ u z H, e = .returned (.tuple #[u, .int .i64 z]) /\ qAD w' u H /\ qDv m z H := by
 obtain ⟨hB, ⟨h1, rfl⟩ | ⟨h1, H, k1, k2, -, k3⟩⟩ := h
 ·exact ⟨hB, _, _, [], rfl, qAh.nil _ 0 (by omega), .inl ⟨h1, rfl, rfl⟩⟩
 ·obtain ⟨u, z, H', e1, e2, e3⟩ := k3.val (G := qMp m) ⟨k1, k2⟩
  exact ⟨hB, u, z, H', e1, e2, .inr ⟨h1, e3⟩⟩
theorem qG0.val {w0 w' : World} {m : List (List Int)} {e : Ending} (h : qG0 w0 m e w') : Below w0.heap.size w0 w' /\ ∃ u z H, e = .returned (.tuple #[u, .int .i64 z]) /\ qAD w' u H /\ qHS m z H := by
 obtain ⟨hB, ⟨h1, rfl⟩ | ⟨h1, H, k1, k2, -, k3⟩⟩ := h
 ·exact ⟨hB, _, _, [], rfl, qAh.nil _ 0 (by omega), .inl ⟨h1, rfl, rfl⟩⟩
 ·obtain ⟨u, z, H', e1, e2, e3⟩ := k3.val (G := qML m) ⟨k1, k2⟩
  exact ⟨hB, u, z, H', e1, e2, .inr ⟨h1, e3⟩⟩
theorem qDw.wide {M0 M : List (List Int)} {n c c' top : Nat} (h : qDw M0 M n c top) (hc : c <= c') (he : c = c' \/ M.length <= top) : qDw M0 M n c' top := by
 rcases he with rfl | he
 ·exact h
 ·obtain ⟨ps, p1, p2, p3, p4⟩ := h.piv
  exact ⟨h.len, h.row, h.span, h.le, ⟨ps, p1, p2, fun p hp => by have := p3 p hp; omega, p4⟩, fun i hi ht => by omega⟩
theorem qHq {a b : List Int} {q : Int} {y z : Nat} (ha : ∀ x ∈ a, Sz y x) (hq : Sz (y + 1) q) (hb : ∀ x ∈ b, Sz z x) : ∀ x ∈ qCn a b q, Sz (y + (z + 2)) x := by
 intro x hx; obtain ⟨j, hj, rfl⟩ := List.mem_iff_getElem.1 hx; rw [qA9] at hj; rw [qE4 j hj]; have h1 : Sz y (vec a j) := by rw [qAj hj]; exact ha _ (List.getElem_mem _)
 have h2 : Sz z (vec b j) := by
  rcases Nat.lt_or_ge j b.length with h | h
  ·rw [qAj h]; exact hb _ (List.getElem_mem _)
  ·rw [qAq h]; exact Sz.zero _
 exact ((h1.mono (by omega)).sub ((hq.mul h2).mono (show y + 1 + z <= y + z + 1 by omega))).mono (by omega)
def qDX (v : List Int) (c : Nat) : List Int := if vec v c < 0 then v.map (fun x => -x) else v
theorem qHi {v : List Int} {c : Nat} : (qDX v c).length = v.length := by unfold qDX; split <;> simp
theorem qEO (v : List Int) (j : Nat) : vec (v.map (fun x => -x)) j = -vec v j := by
 unfold vec; rw [List.getElem?_map]; cases v[j]? <;> simp
theorem qIL {v : List Int} {c : Nat} : ∃ s : Int, (s = 1 \/ s = -1) /\ ∀ j, vec (qDX v c) j = s * vec v j := by
 unfold qDX
 split
 ·exact ⟨-1, .inr rfl, fun j => by rw [qEO]; omega⟩
 ·exact ⟨1, .inl rfl, fun j => by omega⟩
theorem qHh {v : List Int} {c : Nat} (h : qBS (vec v) c) : qBS (vec (qDX v c)) c /\ 0 < vec (qDX v c) c := by
 unfold qDX; have h2 := h.2
 split
 ·refine ⟨⟨fun j hj => by rw [qEO, h.1 j hj]; rfl, by rw [qEO]; omega⟩, by rw [qEO]; omega⟩
 ·exact ⟨h, by omega⟩
theorem qIK {v : List Int} {c y : Nat} (h : ∀ x ∈ v, Sz y x) : ∀ x ∈ qDX v c, Sz y x := by
 unfold qDX
 split
 ·intro x hx
  obtain ⟨z, hz, rfl⟩ := List.mem_map.1 hx; exact (h z hz).neg
 ·exact h
structure qJv (E : List (List Int)) (ps : List Nat) (n b i : Nat) (O : List (List Int)) : Prop where
 len : O.length = i
 row : ∀ r ∈ O, r.length = n
 piv : ∀ k (h : k < O.length) (h' : k < ps.length), qBS (vec O[k]) ps[k] /\ 0 < vec O[k] ps[k]
 red : ∀ k k' (h : k < k') (h' : k' < O.length) (h2 : k' < ps.length), 0 <= vec (O[k]'(by omega)) ps[k'] /\ vec (O[k]'(by omega)) ps[k'] < vec O[k'] ps[k']
 span : ∀ v, qAa (O.map vec) v ↔ qAa ((E.take i).map vec) v
 sz : ∀ r ∈ O, ∀ x ∈ r, Sz (b + i * (b + 2)) x
theorem qJv.start {E : List (List Int)} {ps : List Nat} {n b : Nat} : qJv E ps n b 0 [] :=
 ⟨rfl, fun r h => (by cases h), fun k h => (by simp at h), fun k k' h h' => (by simp at h'), fun v => by simp, fun r h => (by cases h)⟩
structure qHR (O : List (List Int)) (v : List Int) (c k : Nat) (O' : List (List Int)) : Prop where
 len : O'.length = O.length
 done : ∀ j (h : j < O.length) (h' : j < O'.length), j < k -> O'[j] = qCn O[j] v (vec O[j] c / vec v c)
 left : ∀ j (h : j < O.length) (h' : j < O'.length), k <= j -> O'[j] = O[j]
theorem qHR.start {O : List (List Int)} {v : List Int} {c : Nat} : qHR O v c 0 O := ⟨rfl, fun j h h' h2 => by omega, fun _ _ _ _ => rfl⟩
theorem qHR.step {O O' : List (List Int)} {v r : List Int} {c k : Nat} (h : qHR O v c k O') (hk : k < O.length) (hr : r = qCn O[k] v (vec O[k] c / vec v c)) : qHR O v c (k + 1) (O'.set k r) := by
 refine ⟨by rw [List.length_set]; exact h.len, fun j hj hj' hjk => ?_, fun j hj hj' hjk => ?_⟩
 ·rw [List.length_set] at hj'
  by_cases e : j = k
  ·subst e; rw [List.getElem_set_self, hr]
  ·rw [List.getElem_set_ne (Ne.symm e)]; exact h.done j hj hj' (by omega)
 ·rw [List.length_set] at hj'
  rw [List.getElem_set_ne (by omega)]; exact h.left j hj hj' (by omega)
theorem qHR.row {O O' : List (List Int)} {v : List Int} {c k n : Nat} (h : qHR O v c k O') (hr : ∀ r ∈ O, r.length = n) : ∀ r ∈ O', r.length = n := by
 intro r hr'; obtain ⟨j, hj, rfl⟩ := List.mem_iff_getElem.1 hr'; have hj2 : j < O.length := by rw [<- h.len]; exact hj
 rcases Nat.lt_or_ge j k with e | e
 ·rw [h.done j hj2 hj e, qA9]; exact hr _ (List.getElem_mem _)
 ·rw [h.left j hj2 hj e]; exact hr _ (List.getElem_mem _)
theorem qMh {y : Nat} {x p : Int} (h : Sz y x) (hp : p ≠ 0) : Sz (y + 1) (x / p) := h.div hp
theorem qDP {k : Nat} {s : List Int} (h : ∀ x ∈ s, Sz k x) (i : Nat) : Sz k (vec s i) := by
 rcases Nat.lt_or_ge i s.length with hi | hi
 ·rw [qAj hi]; exact h _ (List.getElem_mem _)
 ·rw [qAq hi]; exact Sz.zero _
theorem qHR.sz {O O' : List (List Int)} {v : List Int} {c k y z : Nat} (h : qHR O v c k O') (hO : ∀ r ∈ O, ∀ x ∈ r, Sz y x) (hv : ∀ x ∈ v, Sz z x) (hp : vec v c ≠ 0) : ∀ r ∈ O', ∀ x ∈ r, Sz (y + (z + 2)) x := by
 intro r hr'; obtain ⟨j, hj, rfl⟩ := List.mem_iff_getElem.1 hr'; have hj2 : j < O.length := by rw [<- h.len]; exact hj
 have h1 := hO _ (List.getElem_mem hj2); rcases Nat.lt_or_ge j k with e | e
 ·rw [h.done j hj2 hj e]
  exact qHq h1 (qMh (qDP h1 c) hp) hv
 ·rw [h.left j hj2 hj e]
  exact fun x hx => (h1 x hx).mono (by omega)
theorem qJv.step {E O O' : List (List Int)} {ps : List Nat} {n b i : Nat} (h : qJv E ps n b i O) (hs : ps.Pairwise (· < ·)) (hi : i < E.length) (hip : i < ps.length) (hE : E[i].length = n) (hp : qBS (vec E[i]) ps[i]) (hb : ∀ x ∈ E[i], Sz b x)
 (hd : qHR O (qDX E[i] ps[i]) ps[i] O.length O') : qJv E ps n b (i + 1) (O' ++ [qDX E[i] ps[i]]) := by
 obtain ⟨hp1, hp2⟩ := qHh hp; have hlen := h.len; have hl' : O'.length = i := by rw [hd.len, hlen]
 obtain ⟨s, hs1, hs2⟩ := qIL (v := E[i]) (c := ps[i]); generalize hv : qDX E[i] ps[i] = v at *; have hvn : v.length = n := by rw [<- hv, qHi, hE]
 have hvs : ∀ x ∈ v, Sz b x := by rw [<- hv]; exact qIK hb
 have hvec : ∀ k (hk : k < O.length) (hk' : k < O'.length) j, vec O'[k] j = vec O[k] j - (vec O[k] ps[i] / vec v ps[i]) * vec v j := fun k hk hk' j => by
  rw [hd.done k hk hk' hk, qDF (by rw [hvn, h.row _ (List.getElem_mem _)])]
 have hlt : ∀ k (hk : k < i), ps[k]'(by omega) < ps[i] := fun k hk => List.pairwise_iff_getElem.1 hs k i (by omega) hip hk; have hkeep : ∀ k (hk : k < O.length) (hk' : k < O'.length) j, j < ps[i] -> vec O'[k] j = vec O[k] j := fun k hk hk' j hj => by
  rw [hvec k hk hk' j, hp1.1 j hj, Int.mul_zero, Int.sub_zero]
 refine ⟨by simp [hl'], fun r hr => ?_, fun k hk hk' => ?_, fun k k' h1 h2 h3 => ?_, fun u => ?_, fun r hr x hx => ?_⟩
 ·rcases List.mem_append.1 hr with h1 | h1
  ·exact hd.row h.row r h1
  ·rw [List.mem_singleton.1 h1]; exact hvn
 ·simp only [List.length_append, List.length_singleton, hl'] at hk
  rcases Nat.lt_or_ge k i with h1 | h1
  ·rw [List.getElem_append_left (by omega)]
   have hk1 : k < O.length := by omega
   obtain ⟨a1, a2⟩ := h.piv k hk1 hk'; have e := hkeep k hk1 (by omega); have h2 := hlt k h1; exact ⟨⟨fun j hj => by rw [e j (by omega)]; exact a1.1 j hj, by rw [e _ h2]; exact a1.2⟩, by rw [e _ h2]; exact a2⟩
  ·obtain rfl : k = i := by omega
   rw [List.getElem_append_right (by omega)]; simpa using ⟨hp1, hp2⟩
 ·simp only [List.length_append, List.length_singleton, hl'] at h2
  rcases Nat.lt_or_ge k' i with h4 | h4
  ·have h5 := h.red k k' h1 (by omega) h3
   have h6 := hlt k' h4; have e1 : (O' ++ [v])[k]'(by simp; omega) = O'[k]'(by omega) := List.getElem_append_left (by omega); have e2 : (O' ++ [v])[k']'(by simp; omega) = O'[k']'(by omega) := List.getElem_append_left (by omega); rw [e1, e2, hkeep k (by omega) (by omega) _ h6, hkeep k' (by omega) (by omega) _ h6]; exact h5
  ·obtain rfl : k' = i := by omega
   have e1 : (O' ++ [v])[k]'(by simp; omega) = O'[k]'(by omega) := List.getElem_append_left (by omega); have e2 : (O' ++ [v])[k']'(by simp; omega) = v := by rw [List.getElem_append_right (by omega)]; simp
   rw [e1, e2, hvec k (by omega) (by omega)]; have g1 := Int.emod_nonneg (vec (O[k]'(by omega)) ps[k']) (show vec v ps[k'] ≠ 0 by omega); have g2 := Int.emod_lt_of_pos (vec (O[k]'(by omega)) ps[k']) hp2; rw [Int.emod_def, Int.mul_comm] at g1 g2; exact ⟨g1, g2⟩
 ·rw [List.take_succ_eq_append_getElem hi, List.map_append, List.map_append]
  have hE1 : qAa (List.map vec [v]) (vec E[i]) := ((qAa.mem (show vec v ∈ List.map vec [v] by simp)).smul s).congr (fun j => by rw [hs2, <- Int.mul_assoc]; rcases hs1 with rfl | rfl <;> omega); have hE2 : qAa (List.map vec [E[i]]) (vec v) := ((qAa.mem (show vec E[i] ∈ List.map vec [E[i]] by simp)).smul s).congr (fun j => (hs2 j).symm); have up1 : ∀ {A B : List Vec} {u : Vec}, qAa A u -> qAa (A ++ B) u := fun h => h.trans (fun r hr => qAa.mem (by simp [hr])); have up2 : ∀ {A B : List Vec} {u : Vec}, qAa B u -> qAa (A ++ B) u := fun h => h.trans (fun r hr => qAa.mem (by simp [hr])); constructor
  ·intro hu
   refine hu.trans (fun r hr => ?_); rcases List.mem_append.1 hr with h1 | h1
   ·obtain ⟨a, ha, rfl⟩ := List.mem_map.1 h1
    obtain ⟨k, hk, rfl⟩ := List.mem_iff_getElem.1 ha; have hk1 : k < O.length := by omega
    refine ((up1 ((h.span _).1 (qAa.mem (List.mem_map.2 ⟨_, List.getElem_mem hk1, rfl⟩)))).sub ((up2 hE2).smul (vec O[k] ps[i] / vec v ps[i]))).congr (fun j => (hvec k hk1 hk j).symm)
   ·have : r = vec v := by simpa using h1
    rw [this]; exact up2 hE2
  ·intro hu
   refine hu.trans (fun r hr => ?_); rcases List.mem_append.1 hr with h1 | h1
   ·have h2 := (h.span r).2 (qAa.mem h1)
    refine h2.trans (fun r' hr' => ?_); obtain ⟨a, ha, rfl⟩ := List.mem_map.1 hr'; obtain ⟨k, hk, rfl⟩ := List.mem_iff_getElem.1 ha; have hk1 : k < O'.length := by omega
    refine ((up1 (qAa.mem (List.mem_map.2 ⟨_, List.getElem_mem hk1, rfl⟩))).add ((up2 (qAa.mem (show vec v ∈ List.map vec [v] by simp))).smul (vec O[k] ps[i] / vec v ps[i]))).congr (fun j => ?_); rw [hvec k hk hk1 j]; omega
   ·have : r = vec E[i] := by simpa using h1
    rw [this]; exact up2 hE1
 ·have e : b + (i + 1) * (b + 2) = b + i * (b + 2) + (b + 2) := by rw [Nat.add_mul]; omega
  rw [e]; rcases List.mem_append.1 hr with h1 | h1
  ·exact hd.sz h.sz hvs (by omega) r h1 x hx
  ·rw [List.mem_singleton.1 h1] at hx
   exact (hvs x hx).mono (by rw [Nat.add_assoc]; exact Nat.le_add_right _ _)
theorem qJv.nrm {E O : List (List Int)} {ps : List Nat} {n b i : Nat} (h : qJv E ps n b i O) (hs : ps.Pairwise (· < ·)) (hi : i = ps.length) (hc : ∀ p ∈ ps, p < n) : IsN O n := by
 have hlen := h.len; have hpv : ∀ k (hk : k < O.length), pv O[k] = ps[k]'(by omega) := fun k hk => by
  have h1 := h.piv k hk (by omega); exact qKS (fun c hc => h1.1.1 c hc) (by rw [h.row _ (List.getElem_mem _)]; exact hc _ (List.getElem_mem _)) h1.1.2
 intro k hk hk'; have h1 := h.piv k hk (by omega); rw [hpv k hk]; refine ⟨h.row _ (List.getElem_mem _), hc _ (List.getElem_mem _), by omega, fun j hj => ?_, fun j hj => h.red j k hj hk (by omega)⟩; rw [hpv j (by omega)]; exact List.pairwise_iff_getElem.1 hs j k (by omega) (by omega) hj
theorem qDw.nor {M0 E O : List (List Int)} {ps : List Nat} {n b top : Nat} (h : qDw M0 E n n top) (hO : qJv E ps n b top O) (p1 : ps.length = top) (p2 : ps.Pairwise (· < ·)) (p3 : ∀ p ∈ ps, p < n) : qAC (M0.map vec) 0 (O.map vec) := by
 refine ⟨(hO.nrm p2 p1.symm p3).nrm, fun v => ?_⟩; have e : qAa (O.map vec) v ↔ qAa (M0.map vec) v := by
  rw [hO.span, <- h.span]; constructor
  ·intro hv
   refine hv.trans (fun r hr => qAa.mem ?_); obtain ⟨a, ha, rfl⟩ := List.mem_map.1 hr; exact List.mem_map.2 ⟨a, List.mem_of_mem_take ha, rfl⟩
  ·intro hv
   refine hv.trans (fun r hr => ?_); obtain ⟨a, ha, rfl⟩ := List.mem_map.1 hr; obtain ⟨k, hk, rfl⟩ := List.mem_iff_getElem.1 ha; rcases Nat.lt_or_ge k top with h1 | h1
   ·refine qAa.mem (List.mem_map.2 ⟨E[k], ?_, rfl⟩)
    rw [List.mem_iff_getElem]; exact ⟨k, by simp; omega, by rw [List.getElem_take]⟩
   ·refine qAa.zero.congr (fun j => ?_)
    rcases Nat.lt_or_ge j n with h2 | h2
    ·exact (h.low k hk h1 j h2).symm
    ·rw [qAq (by rw [h.row _ (List.getElem_mem _)]; exact h2)]
 rw [e]; constructor
 ·intro hv
  exact ⟨v, hv, fun j hj => by omega, fun j => by rw [Nat.zero_add]⟩
 ·rintro ⟨u, h1, -, h3⟩
  exact h1.congr (fun j => by rw [h3, Nat.zero_add])
open Go.RowKit
abbrev T4 : Nat := 10000
theorem qAo : 2 <= T4 := by decide
def qBx (w : World) (v : Value) (n : Nat) : Prop := qAd .i64 w v (qAe T4 n)
def qAH (w : World) (v : Value) (z : Int) : Prop := ∃ vd, v = .agg #[.bool (decide (z < 0)), vd] /\ qBx w vd z.natAbs
theorem qAH.below {w w' : World} {v : Value} {z : Int} {B : Nat} (h : qAH w v z) (hB : w.heap.size <= B) (hb : Below B w w') : qAH w' v z := by
 obtain ⟨vw, hv, hm⟩ := h; exact ⟨vw, hv, qAd.below hm hB hb⟩
theorem qAH.form {w : World} {v : Value} {z : Int} (h : qAH w v z) : ∃ a n c, v = .agg #[.bool (decide (z < 0)), .slice a n c] /\ qBx w (.slice a n c) z.natAbs /\ n = (qAe T4 z.natAbs).length /\ n <= c /\ c <= 9223372036854775807 := by
 obtain ⟨vd, hv, hm⟩ := h; obtain ⟨a, c, rfl, h1, h2, h3⟩ := hm; exact ⟨a, _, c, hv, ⟨a, c, rfl, h1, h2, h3⟩, rfl, h1, h2⟩
def qJu (neg : Bool) (v : Value) (L : List Nat) (w : World) (e : Ending) (w' : World) : Prop :=
 (∃ a cap b n, v = .slice a L.length cap /\ e = .returned (.agg #[.bool b, .slice a n cap]) /\ qAH w' (.agg #[.bool b, .slice a n cap]) (sgn neg (val T4 L))) /\ Below w.heap.size w w'
theorem qFG (neg : Bool) (v : Value) (L : List Nat) (w : World) (h : qAd .i64 w v L) (hlow : Low T4 L) (hlen : L.length <= 4611686018427387904) :
 Calls Try.prog 59 #[.bool neg, v] w (qJu neg v L w) := by
 have Htake := hZ (fun n hn => h.take n hn); obtain ⟨a, cap, rfl, h1, h2, hc⟩ := h; have Hc := hZ hc; have Hlow := hZ hlow; clear hc hlow; obtain ⟨N, hN⟩ := eX L.length; have HN := hZ hN; rw [hN] at h1 hlen ⊢; clear hN
 go_enter Try.func59, Try.ntmps59
 go_wp2
 have HB0 := hZ ((Below.refl w.heap.size w).alloc (Nat.le_refl _) (.cells #[.bool false, .slice none 0 0] 61)); have HT0 := hZ (Two.new w 61 (.bool false) (.slice none 0 0)); generalize hw0 : w.alloc (.cells #[.bool false, .slice none 0 0] 61) = w0 at *; have f0 := HT0.o.cell0; have f1 := HT0.o.cell1; have f2 := HT0.o.frozen 0; have f3 := HT0.o.frozen 1; clear hw0
 go_loop [1] (fun i => ∃ n : Nat, n <= N /\ i = .slice a n cap /\ Hid (∀ j (h : j < L.length), n <= j -> L[j] = 0)) (fun i => qMK i)
 case atStart => exact ⟨N, Nat.le_refl _, rfl, hZ (fun j hj hn => by rw [HN.o] at hj; omega)⟩
 case round =>
  obtain ⟨n, hn, rfl, hz⟩ := hrel; have hdone : ∀ n : Nat, n <= N -> (∀ j (h : j < L.length), n <= j -> L[j] = 0) -> (∀ h : n - 1 < L.length, n = 0 \/ L[n - 1] ≠ 0) -> ∀ b : Bool, b = (neg && decide (0 < n)) -> ∀ u u' : Value, qAH ((w0.setCell ⟨w.heap.size, 0, none⟩ u).setCell ⟨w.heap.size, 1, none⟩ u') (.agg #[.bool b, .slice a n cap]) (sgn neg (val T4 L)) := by
   intro n hn hz hl b hb u u'; obtain ⟨a', cap', hv, _, _, hr⟩ := Htake.o n (by rw [HN.o]; exact hn); rw [HN.o] at hv; injection hv with e1 e2 e3; subst e1 e3; rw [qDQ T4 qAo L Hlow.o n (by rw [HN.o]; exact hn) hz hl] at hr; have hnl : n = (qAe T4 (val T4 L)).length := by obtain ⟨_, _, hv, _⟩ := hr; injection hv
   refine ⟨.slice a n cap, ?_, ?_⟩
   ·rw [qIE, hb, hnl]
    have e9 : decide (0 < (qAe T4 (val T4 L)).length) = decide (0 < val T4 L) := by
     congr 1
     rw [eq_iff_iff, List.length_pos_iff, ne_eq, qBB T4 _ qAo]; omega
    rw [e9]
   ·rw [qAG]
    exact qAd.set_two (qAd.below hr (Nat.le_refl _) HB0.o) HT0.o u u'
  have Hd := hZ hdone; clear hdone; by_cases h0 : n = 0
  ·subst h0
   cases neg with
   | false =>
    go_wp2
    refine bodyPost_ret (v := .agg #[.bool false, .slice a 0 cap]) (by simp [results, Try.results59, go_sem, f0, f1]) rfl ⟨⟨_, _, _, _, HN.o ▸ rfl, rfl, Hd.o 0 hn hz.o (fun _ => .inl rfl) _ (by simp) _ _⟩, (HB0.o.setCell (p := ⟨w.heap.size, 0, none⟩) (Nat.le_refl _) _).setCell (p := ⟨w.heap.size, 1, none⟩) (Nat.le_refl _) _⟩
   | true =>
    go_wp2
    refine bodyPost_ret (v := .agg #[.bool false, .slice a 0 cap]) (by simp [results, Try.results59, go_sem, f0, f1]) rfl ⟨⟨_, _, _, _, HN.o ▸ rfl, rfl, Hd.o 0 hn hz.o (fun _ => .inl rfl) _ (by simp) _ _⟩, (HB0.o.setCell (p := ⟨w.heap.size, 0, none⟩) (Nat.le_refl _) _).setCell (p := ⟨w.heap.size, 1, none⟩) (Nat.le_refl _) _⟩
  ·have hlt : n - 1 < L.length := by rw [HN.o]; omega
   obtain ⟨b, off, rfl, hb, hcc⟩ := Hc.o (by rw [HN.o]; omega); have hcell := (HB0.o.cell (p := ⟨b, off + (n - 1), none⟩) hb).trans (hcc (n - 1) hlt); clear hcc; have hi : (off : Int) + ((n : Int) - 1) = ((off + (n - 1) : Nat) : Int) := by omega
   by_cases hzz : L[n - 1] = 0
   ·have hz2 : Hid (∀ j (h : j < L.length), n - 1 <= j -> L[j] = 0) := hZ (fun j hj hnj => by
     by_cases e : j = n - 1
     ·subst e; exact hzz
     ·exact hz.o j hj (by omega))
    rw [hzz] at hcell; clear hzz
    go_wp2
    go_round
    case rel => exact ⟨n - 1, by omega, by first | rfl | (congr 1; omega), hz2⟩
    case measure => simp [qMK]; omega
   ·have hne : (((L[n - 1] : Nat) : Int) == 0) = false := by simp; exact hzz
    have hnp : 0 < n := by omega
    cases neg with
    | false =>
     go_wp2
     refine bodyPost_ret (v := .agg #[.bool false, .slice (some ⟨b, off, none⟩) n cap]) (by simp [results, Try.results59, go_sem, f0, f1]) rfl ⟨⟨_, _, _, _, HN.o ▸ rfl, rfl, Hd.o n hn hz.o (fun _ => .inr hzz) _ (by simp [hnp]) _ _⟩, (HB0.o.setCell (p := ⟨w.heap.size, 0, none⟩) (Nat.le_refl _) _).setCell (p := ⟨w.heap.size, 1, none⟩) (Nat.le_refl _) _⟩
    | true =>
     go_wp2
     refine bodyPost_ret (v := .agg #[.bool true, .slice (some ⟨b, off, none⟩) n cap]) (by simp [results, Try.results59, go_sem, f0, f1]) rfl ⟨⟨_, _, _, _, HN.o ▸ rfl, rfl, Hd.o n hn hz.o (fun _ => .inr hzz) _ (by simp [hnp]) _ _⟩, (HB0.o.setCell (p := ⟨w.heap.size, 0, none⟩) (Nat.le_refl _) _).setCell (p := ⟨w.heap.size, 1, none⟩) (Nat.le_refl _) _⟩
theorem qAJ (neg : Bool) (v : Value) (L : List Nat) (w : World) (h : qAd .i64 w v L) (hlow : Low T4 L) (hlen : L.length <= 4611686018427387904) :
 Calls Try.prog 59 #[.bool neg, v] w fun e w' => (∃ vr, e = .returned vr /\ qAH w' vr (sgn neg (val T4 L))) /\ Below w.heap.size w w' :=
 (qFG neg v L w h hlow hlen).mono (by rintro e w' ⟨⟨a, cap, b, n, hv, rfl, h1⟩, hB⟩; exact ⟨⟨_, rfl, h1⟩, hB⟩)
open Go.RowKit
theorem qDr : (Try.prog.info? 3).map (fun i => (i.zero, i.size, i.bytes)) = some (some (.int .i64 0), 1, 8) := by kernel_rfl
theorem qC1 (m : Nat) (h : m < 18446744073709551616) : (qAe T4 m).length <= 5 := qAO T4 qAo 5 m (Nat.lt_trans h (by decide))
theorem qAd.of_owns {k : IntKind} {w : World} {B : Nat} {e : TypeId} {ga : Option Addr} {n gc : Nat} {L : List Nat} (h : w.ownsRow B e 1 (.slice ga n gc) n (L.map (iv k))) (hn : n = L.length) : qAd k w (.slice ga n gc) L := by
 rcases id h.2 with ⟨hv, _⟩ | ⟨g, cap, cur, hv, _, hg, h1, h2, _, _⟩
 ·injection hv with e1 e2 e3
  subst e1 e2 e3; exact ⟨none, 0, by rw [<- hn], by omega, by omega, fun h0 => by omega⟩
 ·injection hv with e1 e2 e3
  subst e1 e3; subst hn; unfold maxLen at h2; refine ⟨_, gc, rfl, h1, by omega, fun h0 => ⟨g, 0, rfl, (Array.getElem?_eq_some_iff.1 hg).1, fun j hj => ?_⟩⟩; rw [Nat.zero_add, h.cellAt j (by omega), List.getElem?_map, List.getElem?_eq_getElem hj]; rfl
theorem qAH.set_two {w : World} {v : Value} {z : Int} {b : Nat} {t : TypeId} {x : Bool} {p : Option Addr} {l c : Nat} (h : qAH w v z) (hT : Two w b t (.bool x) (.slice p l c)) (u u' : Value) :
 qAH ((w.setCell ⟨b, 0, none⟩ u).setCell ⟨b, 1, none⟩ u') v z := by
 obtain ⟨vw, hv, hm⟩ := h; exact ⟨vw, hv, qAd.set_two hm hT u u'⟩
theorem qL0 (m : Nat) (w : World) (h : m <= 9223372036854775807) :
 Calls Try.prog 40 #[.int .i64 (m : Int)] w fun e w' => (∃ vr, e = .returned vr /\ qAH w' vr (m : Int)) /\ Below w.heap.size w w' := by
 obtain ⟨i0, hi, hz0, hz1, hz2⟩ := info_parts qDr; have Hi := hZ hi; have Hz0 := hZ hz0; have Hz1 := hZ hz1; have Hz2 := hZ hz2; clear hi hz0 hz1 hz2; have hm0 : ¬ ((m : Int) < 0) := by omega
 have HL5 := hZ (qC1 m (by omega))
 go_enter Try.func40, Try.ntmps40
 go_wp2
 have HB0 := hZ ((Below.refl w.heap.size w).alloc (Nat.le_refl _) (.cells #[.bool false, .slice none 0 0] 61)); have HT0 := hZ (Two.new w 61 (.bool false) (.slice none 0 0)); have hs0 : w.heap.size < (w.alloc (.cells #[.bool false, .slice none 0 0] 61)).heap.size := by simp
 generalize hw0 : w.alloc (.cells #[.bool false, .slice none 0 0] 61) = w0 at *; clear hw0
 go_loopw [0, 3] (fun nv dv wr => ∃ (acc : List Nat) (r : Nat) (ga : Option Addr) (gc : Nat), nv = .int .i64 (r : Int) /\ dv = .slice ga acc.length gc /\ Hid (acc ++ qAe T4 r = qAe T4 m) /\ r <= m /\ Hid (wr.ownsRow w0.heap.size 3 1 (.slice ga acc.length gc) acc.length (acc.map (iv .i64))) /\ Hid (Below w0.heap.size w0 wr)) (fun nv _ _ => qIs nv)
 case atStart => exact ⟨[], m, none, 0, rfl, rfl, hZ rfl, Nat.le_refl _, hZ (World.ownsRow_nil _ _ _ _), hZ (Below.refl _ _)⟩
 case round =>
  obtain ⟨acc, r, ga, gc, rfl, rfl, hacc, hrm, hown, hB⟩ := hrel; have hzr := hB.o.size; have hal : acc.length <= 5 := by
   have h3 := congrArg List.length hacc.o; rw [List.length_append] at h3; have := HL5.o; omega
  have hgc : gc <= 9223372036854775807 := by
   rcases hown.o.2 with ⟨hv, _⟩ | ⟨_, _, _, hv, _, _, _, h3, _⟩
   ·injection hv with _ _ e; omega
   ·injection hv with _ _ e; unfold maxLen at h3; omega
  by_cases hr0 : r = 0
  ·subst hr0
   have hA : acc = qAe T4 m := by have h3 := hacc.o; rwa [qBa, List.append_nil] at h3
   have Hno := hZ (qAJ false _ acc _ (qAd.of_owns hown.o rfl) (by rw [hA]; exact qAk T4 qAo m) (by omega)); have HA := hZ hA; clear hA
   go_wp2_with fail
   refine Hno.o.mono ?_; rintro e w5 ⟨⟨vr, rfl, hr⟩, hB5⟩; rw [HA.o, qAi T4 qAo] at hr; have Hr := hZ hr; obtain ⟨a5, n5, c5, rfl, -, -, -⟩ := hr.form; have HT5 := hZ ((HT0.o.below hB.o (by omega)).below hB5 (by omega)); have f0 := HT5.o.cell0; have f1 := HT5.o.cell1; have f2 := HT5.o.frozen 0; have f3 := HT5.o.frozen 1; have HB5 := hZ (HB0.o.trans ((hB.o.trans (hB5.mono hzr)).mono (by omega))); clear hr hB5 Hno
   go_wp2
   refine bodyPost_ret (v := .agg #[.bool (decide (sgn false m < 0)), .slice a5 n5 c5]) (by simp [results, Try.results40, go_sem, f0, f1]) rfl ⟨⟨_, rfl, ?_⟩, (HB5.o.setCell (p := ⟨w.heap.size, 0, none⟩) (Nat.le_refl _) _).setCell (p := ⟨w.heap.size, 1, none⟩) (Nat.le_refl _) _⟩; exact Hr.o.set_two HT5.o _ _
  ·have hstep := qBj T4 r qAo hr0
   have hal2 : acc.length <= 4 := by
    have h3 := congrArg List.length hacc.o; rw [List.length_append, hstep, List.length_cons] at h3; have := HL5.o; omega
   have Hst := hZ hstep; obtain ⟨k, hk⟩ := eX (r % T4); obtain ⟨q, hq⟩ := eX (r / T4); have hk' : r % 10000 = k := hk; have hq' : r / 10000 = q := hq; have hkI : (r : Int) % 10000 = (k : Int) := by omega
   have hqI : (r : Int) / 10000 = (q : Int) := by omega
   have hk4 : k < 10000 := by omega
   have hqr : q < r := by omega
   rw [hk, hq] at Hst; have Hgown := hZ hown.o.lt; clear hstep hk hq hk' hq'
   go_wp2_with (at_builtin; refine wpList_append_own _ rfl _ _ 22 rfl w0.heap.size 3 i0 _ 1 8 Try.underlying22 Hi.o Hz0.o Hz1.o Hz2.o rfl (by decide) _ _ _ rfl (hown.o.alloc _) ⟨wr.heap.size, 0, none⟩ 1 1 [iv .i64 k] rfl rfl (cell_one_new _ _ _) (by simp [Value.oneCell', iv]) (by unfold maxLen; omega) (by omega) (by simp; omega) ?_)
   intro v5 w5 hown5 hgrow _; obtain ⟨g5, cap5, hv5, _⟩ := hown5.form (by omega); subst hv5; have Hown5 : Hid (w5.ownsRow w0.heap.size 3 1 (.slice (some ⟨g5, 0, none⟩) (acc ++ [k]).length cap5) (acc ++ [k]).length ((acc ++ [k]).map (iv .i64))) := hZ (by rw [List.length_append, List.map_append]; exact hown5); have HB5 := hZ ((hB.o.alloc (by omega) (.cells #[.int .i64 (k : Int)] 3)).grown hgrow (by simp; omega) (fun k e => (hown.o.lt k e).1)); clear hown5 hgrow
   go_wp2
   go_roundw
   case rel => exact ⟨acc ++ [k], q, some ⟨g5, 0, none⟩, cap5, rfl, by simp, hZ (by rw [List.append_assoc]; show acc ++ (k :: qAe T4 q) = _; rw [<- hacc.o, Hst.o]), by omega, Hown5, HB5⟩
   case measure => simp [qIs]; omega
def qMH : Value -> Nat
 | .int _ i => i.natAbs
 | _ => 0
theorem qL1 (m : Nat) (w : World) (h0 : 0 < m) (h : m <= 9223372036854775808) :
 Calls Try.prog 40 #[.int .i64 (-(m : Int))] w fun e w' => (∃ vr, e = .returned vr /\ qAH w' vr (-(m : Int))) /\ Below w.heap.size w w' := by
 obtain ⟨i0, hi, hz0, hz1, hz2⟩ := info_parts qDr; have Hi := hZ hi; have Hz0 := hZ hz0; have Hz1 := hZ hz1; have Hz2 := hZ hz2; clear hi hz0 hz1 hz2; have hm0 : -(m : Int) < 0 := by omega
 have HL5 := hZ (qC1 m (by omega))
 go_enter Try.func40, Try.ntmps40
 go_wp2
 have HB0 := hZ ((Below.refl w.heap.size w).alloc (Nat.le_refl _) (.cells #[.bool false, .slice none 0 0] 61)); have HT0 := hZ (Two.new w 61 (.bool false) (.slice none 0 0)); have hs0 : w.heap.size < (w.alloc (.cells #[.bool false, .slice none 0 0] 61)).heap.size := by simp
 generalize hw0 : w.alloc (.cells #[.bool false, .slice none 0 0] 61) = w0 at *; clear hw0
 go_loopw [0, 3] (fun nv dv wr => ∃ (acc : List Nat) (r : Nat) (ga : Option Addr) (gc : Nat), nv = .int .i64 (-(r : Int)) /\ dv = .slice ga acc.length gc /\ Hid (acc ++ qAe T4 r = qAe T4 m) /\ r <= m /\ Hid (wr.ownsRow w0.heap.size 3 1 (.slice ga acc.length gc) acc.length (acc.map (iv .i64))) /\ Hid (Below w0.heap.size w0 wr)) (fun nv _ _ => qMH nv)
 case atStart => exact ⟨[], m, none, 0, rfl, rfl, hZ rfl, Nat.le_refl _, hZ (World.ownsRow_nil _ _ _ _), hZ (Below.refl _ _)⟩
 case round =>
  obtain ⟨acc, r, ga, gc, rfl, rfl, hacc, hrm, hown, hB⟩ := hrel; have hzr := hB.o.size; have hal : acc.length <= 5 := by
   have h3 := congrArg List.length hacc.o; rw [List.length_append] at h3; have := HL5.o; omega
  have hgc : gc <= 9223372036854775807 := by
   rcases hown.o.2 with ⟨hv, _⟩ | ⟨_, _, _, hv, _, _, _, h3, _⟩
   ·injection hv with _ _ e; omega
   ·injection hv with _ _ e; unfold maxLen at h3; omega
  by_cases hr0 : r = 0
  ·subst hr0
   have hA : acc = qAe T4 m := by have h3 := hacc.o; rwa [qBa, List.append_nil] at h3
   have Hno := hZ (qAJ true _ acc _ (qAd.of_owns hown.o rfl) (by rw [hA]; exact qAk T4 qAo m) (by omega)); have HA := hZ hA; clear hA
   go_wp2_with fail
   refine Hno.o.mono ?_; rintro e w5 ⟨⟨vr, rfl, hr⟩, hB5⟩; rw [HA.o, qAi T4 qAo] at hr; have Hr := hZ hr; obtain ⟨a5, n5, c5, rfl, -, -, -⟩ := hr.form; have HT5 := hZ ((HT0.o.below hB.o (by omega)).below hB5 (by omega)); have f0 := HT5.o.cell0; have f1 := HT5.o.cell1; have f2 := HT5.o.frozen 0; have f3 := HT5.o.frozen 1; have HB5 := hZ (HB0.o.trans ((hB.o.trans (hB5.mono hzr)).mono (by omega))); clear hr hB5 Hno
   go_wp2
   refine bodyPost_ret (v := .agg #[.bool (decide (sgn true m < 0)), .slice a5 n5 c5]) (by simp [results, Try.results40, go_sem, f0, f1]) rfl ⟨⟨_, rfl, ?_⟩, (HB5.o.setCell (p := ⟨w.heap.size, 0, none⟩) (Nat.le_refl _) _).setCell (p := ⟨w.heap.size, 1, none⟩) (Nat.le_refl _) _⟩; exact Hr.o.set_two HT5.o _ _
  ·have hstep := qBj T4 r qAo hr0
   have hal2 : acc.length <= 4 := by
    have h3 := congrArg List.length hacc.o; rw [List.length_append, hstep, List.length_cons] at h3; have := HL5.o; omega
   have Hst := hZ hstep; obtain ⟨k, hk⟩ := eX (r % T4); obtain ⟨q, hq⟩ := eX (r / T4); have hk' : r % 10000 = k := hk; have hq' : r / 10000 = q := hq; have hkI : (-(r : Int)).tmod 10000 = -(k : Int) := by rw [Int.neg_tmod, <- hk']; rfl
   have hqI : (-(r : Int)).tdiv 10000 = -(q : Int) := by rw [Int.neg_tdiv, <- hq']; rfl
   have hk4 : k < 10000 := by omega
   have hqr : q < r := by omega
   rw [hk, hq] at Hst; have Hgown := hZ hown.o.lt; clear hstep hk hq hk' hq'; rcases Nat.eq_zero_or_pos k with hk0 | hk0
   ·subst hk0
    rw [show -((0 : Nat) : Int) = 0 from rfl] at hkI
    go_wp2_with (at_builtin; refine wpList_append_own _ rfl _ _ 22 rfl w0.heap.size 3 i0 _ 1 8 Try.underlying22 Hi.o Hz0.o Hz1.o Hz2.o rfl (by decide) _ _ _ rfl (hown.o.alloc _) ⟨wr.heap.size, 0, none⟩ 1 1 [iv .i64 0] rfl rfl (cell_one_new _ _ _) (by simp [Value.oneCell', iv]) (by unfold maxLen; omega) (by omega) (by simp; omega) ?_)
    intro v5 w5 hown5 hgrow _; obtain ⟨g5, cap5, hv5, _⟩ := hown5.form (by omega); subst hv5; have Hown5 : Hid (w5.ownsRow w0.heap.size 3 1 (.slice (some ⟨g5, 0, none⟩) (acc ++ [0]).length cap5) (acc ++ [0]).length ((acc ++ [0]).map (iv .i64))) := hZ (by rw [List.length_append, List.map_append]; exact hown5); have HB5 := hZ ((hB.o.alloc (by omega) (.cells #[.int .i64 0] 3)).grown hgrow (by simp; omega) (fun k e => (hown.o.lt k e).1)); clear hown5 hgrow
    go_wp2
    go_roundw
    case rel => exact ⟨acc ++ [0], q, some ⟨g5, 0, none⟩, cap5, rfl, by simp, hZ (by rw [List.append_assoc]; show acc ++ (0 :: qAe T4 q) = _; rw [<- hacc.o, Hst.o]), by omega, Hown5, HB5⟩
    case measure => simp [qMH]; omega
   ·have hkn : -(k : Int) < 0 := by omega
    go_wp2_with (at_builtin; refine wpList_append_own _ rfl _ _ 22 rfl w0.heap.size 3 i0 _ 1 8 Try.underlying22 Hi.o Hz0.o Hz1.o Hz2.o rfl (by decide) _ _ _ rfl (hown.o.alloc _) ⟨wr.heap.size, 0, none⟩ 1 1 [iv .i64 k] rfl rfl (cell_one_new _ _ _) (by simp [Value.oneCell', iv]) (by unfold maxLen; omega) (by omega) (by simp; omega) ?_)
    intro v5 w5 hown5 hgrow _; obtain ⟨g5, cap5, hv5, _⟩ := hown5.form (by omega); subst hv5; have Hown5 : Hid (w5.ownsRow w0.heap.size 3 1 (.slice (some ⟨g5, 0, none⟩) (acc ++ [k]).length cap5) (acc ++ [k]).length ((acc ++ [k]).map (iv .i64))) := hZ (by rw [List.length_append, List.map_append]; exact hown5); have HB5 := hZ ((hB.o.alloc (by omega) (.cells #[.int .i64 (k : Int)] 3)).grown hgrow (by simp; omega) (fun k e => (hown.o.lt k e).1)); clear hown5 hgrow
    go_wp2
    go_roundw
    case rel => exact ⟨acc ++ [k], q, some ⟨g5, 0, none⟩, cap5, rfl, by simp, hZ (by rw [List.append_assoc]; show acc ++ (k :: qAe T4 q) = _; rw [<- hacc.o, Hst.o]), by omega, Hown5, HB5⟩
    case measure => simp [qMH]; omega
theorem qDZ (z : Int) (w : World) (h1 : -9223372036854775808 <= z) (h2 : z <= 9223372036854775807) :
 Calls Try.prog 40 #[.int .i64 z] w fun e w' => (∃ vr, e = .returned vr /\ qAH w' vr z) /\ Below w.heap.size w w' := by
 rcases Int.lt_or_le z 0 with hz | hz
 ·obtain ⟨m, rfl⟩ : ∃ m : Nat, z = -(m : Int) := ⟨z.natAbs, by omega⟩
  exact qL1 m w (by omega) (by omega)
 ·obtain ⟨m, rfl⟩ : ∃ m : Nat, z = (m : Int) := ⟨z.natAbs, by omega⟩
  exact qL0 m w (by omega)
open Go.RowKit
theorem qMG (v : Value) (L : List Nat) (w : World) (h : qAd .i64 w v L) (_hlen : L.length <= 4611686018427387904) (i : Nat) (hi : i < L.length) :
 Calls Try.prog 97 #[v, .int .i64 (i : Int)] w fun e w' => e = .returned (.int .i64 ((L.getD i 0 : Nat) : Int)) /\ w' = w := by
 obtain ⟨b, off, cap, rfl, hb, hc⟩ := h.at_ hi; have hg : L.getD i 0 = L[i] := by simp [List.getD, hi]
 rw [hg]; generalize L[i] = x at *; have hcap : L.length <= cap /\ cap <= 9223372036854775807 := by obtain ⟨_, _, hv, _, _, _⟩ := h; injection hv with _ _ e; omega
 generalize L.length = N at *; clear h hg
 go_enter Try.func97, Try.ntmps97
 go_wp2
 go_ret; exact ⟨rfl, rfl⟩
theorem qMo (v : Value) (L : List Nat) (w : World) (h : qAd .i64 w v L) (i : Nat) (hi : L.length <= i) (_hi2 : i <= 9223372036854775807) :
 Calls Try.prog 97 #[v, .int .i64 (i : Int)] w fun e w' => e = .returned (.int .i64 ((L.getD i 0 : Nat) : Int)) /\ w' = w := by
 obtain ⟨a, cap, rfl, h1, h2, -⟩ := h; have hg : L.getD i 0 = 0 := by simp [List.getD, hi]
 rw [hg]; generalize L.length = N at *; clear hg
 go_enter Try.func97, Try.ntmps97
 go_wp2
 go_ret; exact ⟨rfl, rfl⟩
theorem qHO (v : Value) (L : List Nat) (w : World) (h : qAd .i64 w v L) (hlen : L.length <= 4611686018427387904) (i : Nat) (hi2 : i <= 4611686018427387904) :
 Calls Try.prog 97 #[v, .int .i64 (i : Int)] w fun e w' => e = .returned (.int .i64 ((L.getD i 0 : Nat) : Int)) /\ w' = w := by
 rcases Nat.lt_or_ge i L.length with hi | hi
 ·exact qMG v L w h hlen i hi
 ·exact qMo v L w h i hi (by omega)
theorem qKe (m n : Nat) (h : (qAe T4 m).length ≠ (qAe T4 n).length) : qAK ((qAe T4 m).length : Int) ((qAe T4 n).length : Int) = qAK (m : Int) (n : Int) := by
 rcases Nat.lt_or_gt_of_ne h with h | h
 ·rw [qBz (by omega), qBz (by have := qC8 T4 qAo m n h; omega)]
 ·rw [qBr (by omega), qBr (by have := qC8 T4 qAo n m h; omega)]
theorem qLx (m n i : Nat) (h1 : i - 1 < (qAe T4 m).length) (h2 : i - 1 < (qAe T4 n).length) (h0 : 0 < i) (hd : (qAe T4 m).drop i = (qAe T4 n).drop i) (hne : (qAe T4 m)[i - 1] ≠ (qAe T4 n)[i - 1]) :
 qAK ((qAe T4 m)[i - 1] : Int) ((qAe T4 n)[i - 1] : Int) = qAK (m : Int) (n : Int) := by
 have e : i - 1 + 1 = i := Nat.sub_add_cancel h0; rcases Nat.lt_or_gt_of_ne hne with h | h
 ·have := qCX T4 qAo _ _ (qAk T4 qAo m) (i - 1) h1 h2 (by rw [e]; exact hd) h
  rw [qAi T4 qAo, qAi T4 qAo] at this; rw [qBz (by omega), qBz (by omega)]
 ·have := qCX T4 qAo _ _ (qAk T4 qAo n) (i - 1) h2 h1 (by rw [e]; exact hd.symm) h
  rw [qAi T4 qAo, qAi T4 qAo] at this; rw [qBr (by omega), qBr (by omega)]
theorem qB3 (va vb : Value) (m n : Nat) (w : World) (ha : qBx w va m) (hb : qBx w vb n) (hl1 : (qAe T4 m).length <= 4611686018427387904) (_hl2 : (qAe T4 n).length <= 4611686018427387904) :
 Calls Try.prog 80 #[va, vb] w fun e w' => e = .returned (.int .i64 (qAK (m : Int) (n : Int))) /\ ∃ d, w' = w.drewN d := by
 obtain ⟨a, cap, rfl, h1, h2, hc⟩ := ha; obtain ⟨a', cap', rfl, h1', h2', hc'⟩ := hb; have Hc := hZ hc; have Hc' := hZ hc'; clear hc hc'; by_cases hne : (qAe T4 m).length = (qAe T4 n).length
 ·obtain ⟨N, hN⟩ := eX ((qAe T4 m).length)
  have HN := hZ hN; have HM := hZ (hne.symm.trans hN); rw [hne.symm.trans hN] at h1' _hl2 ⊢; rw [hN] at h1 hl1 ⊢; clear hN hne
  go_enter Try.func80, Try.ntmps80
  go_wp2
  go_loopw [5] (fun i wr => ∃ k d : Nat, k <= N /\ i = .int .i64 ((k : Int) - 1) /\ Hid ((qAe T4 m).drop k = (qAe T4 n).drop k) /\ Hid (wr = w.drewN d)) (fun i _ => (intOf i + 1).toNat)
  case atStart => exact ⟨N, 0, Nat.le_refl _, rfl, hZ (by rw [List.drop_of_length_le (by rw [HN.o]; exact Nat.le_refl _), List.drop_of_length_le (by rw [HM.o]; exact Nat.le_refl _)]), hZ rfl⟩
  case round =>
   obtain ⟨k, d, hk, rfl, hd, hw⟩ := hrel; have hw' := hw.o; subst hw'; clear hw; by_cases h0 : k = 0
   ·subst h0
    have he : Hid (qAK (m : Int) (n : Int) = 0) := hZ (by
     have := hd.o; rw [List.drop_zero, List.drop_zero] at this; have h3 : m = n := by rw [<- qAi T4 qAo m, <- qAi T4 qAo n, this]
     rw [h3, qAS])
    go_wp2
    go_ret; exact ⟨by rw [he.o]; rfl, d, rfl⟩
   ·have q1 : k - 1 < (qAe T4 m).length := by rw [HN.o]; omega
    have q2 : k - 1 < (qAe T4 n).length := by rw [HM.o]; omega
    obtain ⟨b, off, rfl, hb, hcc⟩ := Hc.o (by omega); obtain ⟨b', off', rfl, hb', hcc'⟩ := Hc'.o (by omega); have c1 := hcc (k - 1) q1; have c2 := hcc' (k - 1) q2; clear hcc hcc'; have i0 : (0 : Int) <= (k : Int) - 1 := by omega
    have i1 : (k : Int) - 1 < (N : Int) := by omega
    have i2 : ((k : Int) - 1).toNat = k - 1 := by omega
    by_cases he : (qAe T4 m)[k - 1] = (qAe T4 n)[k - 1]
    ·have Hd2 := hZ (qFZ q1 q2 (by omega) hd.o he)
     rw [he] at c1; generalize (qAe T4 n)[k - 1] = z at *; clear he
     go_wp2
     go_quiet (fail)
     obtain ⟨W3, hW3⟩ := eX ((w.drewN d).drewN nq); have c3 : W3.cell? ⟨b, off + (k - 1), none⟩ = some (.int .i64 (z : Int)) := by rw [<- hW3]; exact c1
     have c4 : W3.cell? ⟨b', off' + (k - 1), none⟩ = some (.int .i64 (z : Int)) := by rw [<- hW3]; exact c2
     have HW3 := hZ hW3; rw [hW3]; clear hW3 c1 c2
     go_wp2
     go_quiet (fail)
     go_wp2
     go_roundw
     case rel => exact ⟨k - 1, _, by omega, by go_num, Hd2, hZ (by rw [<- HW3.o, World.drewN_drewN, World.drewN_drewN])⟩
     case measure => simp [intOf]; omega
    ·have Hca := hZ (qLx m n k q1 q2 (by omega) hd.o he)
     generalize (qAe T4 n)[k - 1] = z at *; generalize (qAe T4 m)[k - 1] = y at *; rcases Nat.lt_or_gt_of_ne he with hlt | hlt
     ·rw [qBz (by omega)] at Hca
      have hyz : (y : Int) < (z : Int) := by omega
      clear he
      go_wp2
      go_quiet (fail)
      go_wp2
      go_ret; exact ⟨by rw [<- Hca.o]; rfl, _, by rw [World.drewN_drewN]⟩
     ·rw [qBr (by omega)] at Hca
      have hyz : ¬ (y : Int) < (z : Int) := by omega
      have hzy : (z : Int) < (y : Int) := by omega
      clear he
      go_wp2
      go_quiet (fail)
      obtain ⟨W3, hW3⟩ := eX ((w.drewN d).drewN nq); have c3 : W3.cell? ⟨b, off + (k - 1), none⟩ = some (.int .i64 (y : Int)) := by rw [<- hW3]; exact c1
      have c4 : W3.cell? ⟨b', off' + (k - 1), none⟩ = some (.int .i64 (z : Int)) := by rw [<- hW3]; exact c2
      have HW3 := hZ hW3; rw [hW3]; clear hW3 c1 c2
      go_wp2
      go_quiet (fail)
      go_wp2
      go_ret; exact ⟨by rw [<- Hca.o]; rfl, _, by rw [<- HW3.o, World.drewN_drewN, World.drewN_drewN]⟩
 ·have Hcl := hZ (qKe m n hne)
  clear Hc Hc'; generalize (qAe T4 m).length = N at *; generalize (qAe T4 n).length = M at *; rcases Nat.lt_or_gt_of_ne hne with hlt | hlt
  ·have hx : qAK (m : Int) (n : Int) = -1 := by rw [<- Hcl.o, qBz (by omega)]
   have Hx := hZ hx; clear hx Hcl hne
   go_enter Try.func80, Try.ntmps80
   go_wp2
   go_ret; exact ⟨by rw [Hx.o]; rfl, 0, rfl⟩
  ·have hx : qAK (m : Int) (n : Int) = 1 := by rw [<- Hcl.o, qBr (by omega)]
   have Hx := hZ hx; clear hx Hcl hne
   go_enter Try.func80, Try.ntmps80
   go_wp2
   go_ret; exact ⟨by rw [Hx.o]; rfl, 0, rfl⟩
open Go.RowKit
theorem qHe (v : Value) (z : Int) (w : World) (h : qAH w v z) (hlen : (qAe T4 z.natAbs).length <= 4611686018427387904) :
 Calls Try.prog 56 #[v] w fun e w' => (∃ vr, e = .returned vr /\ qAH w' vr (-z)) /\ Below w.heap.size w w' := by
 obtain ⟨a, n, c, rfl, hd, -, hc⟩ := h.form; have Hno := hZ (fun w' (hb : Below w.heap.size w w') => qAJ (!decide (z < 0)) (.slice a n c) (qAe T4 z.natAbs) w' (qAd.below hd (Nat.le_refl _) hb) (qAk T4 qAo _) hlen); rw [qAi T4 qAo, qGw] at Hno; generalize decide (z < 0) = s at *; have HB0 := hZ (((Below.refl w.heap.size w).alloc (Nat.le_refl _) (.cells #[.bool s, .slice a n c] 61)).alloc (by simp) (.cells #[.bool false, .slice none 0 0] 61)); have HT : Hid (Two ((w.alloc (.cells #[.bool s, .slice a n c] 61)).alloc (.cells #[.bool false, .slice none 0 0] 61)) (w.heap.size + 1) 61 (.bool false) (.slice none 0 0)) := hZ (by
  have h9 := Two.new (w.alloc (.cells #[.bool s, .slice a n c] 61)) 61 (.bool false) (.slice none 0 0); rw [World.size_alloc] at h9; exact h9)
 clear h hd hlen
 go_enter Try.func56, Try.ntmps56
 go_wp2_with fail
 refine (Hno.o _ HB0.o).mono ?_; rintro e w5 ⟨⟨vr, rfl, hr⟩, hB5⟩; have Hr := hZ hr; obtain ⟨a5, n5, c5, rfl, -, -, -⟩ := hr.form; have HT5 := hZ (HT.o.below hB5 (by simp)); have f0 := HT5.o.cell0; have f1 := HT5.o.cell1; have f2 := HT5.o.frozen 0; have f3 := HT5.o.frozen 1; have HB5 := hZ (HB0.o.trans (hB5.mono (by simp; omega))); clear hr hB5 Hno
 go_wp2
 refine bodyPost_ret (v := .agg #[.bool (decide (-z < 0)), .slice a5 n5 c5]) (by simp [results, Try.results56, go_sem, f0, f1]) rfl ⟨⟨_, rfl, Hr.o.set_two HT5.o _ _⟩, (HB5.o.setCell (p := ⟨w.heap.size + 1, 0, none⟩) (by show _ <= w.heap.size + 1; omega) _).setCell (p := ⟨w.heap.size + 1, 1, none⟩) (by show _ <= w.heap.size + 1; omega) _⟩
open Go.RowKit
theorem qBe (vx vy : Value) (x y : Int) (w : World) (hx : qAH w vx x) (hy : qAH w vy y) (hlx' : (qAe T4 x.natAbs).length <= 1048576) (hly' : (qAe T4 y.natAbs).length <= 1048576) :
 Calls Try.prog 60 #[vx, vy] w fun e w' => e = .returned (.int .i64 (qAK x y)) /\ Below w.heap.size w w' := by
 obtain ⟨ax, nx, cx, rfl, hmx, -, hcx⟩ := hx.form; obtain ⟨ay, ny, cy, rfl, hmy, -, hcy⟩ := hy.form; have HX := hZ hmx; have HY := hZ hmy; clear hx hy hmx hmy; have HB := hZ (fun b1 b2 => ((Below.refl w.heap.size w).alloc (Nat.le_refl _) (.cells #[.bool b1, .slice ax nx cx] 61)).alloc (by simp) (.cells #[.bool b2, .slice ay ny cy] 61)); by_cases h1 : x < 0 <;> by_cases h2 : y < 0
 ·have Hc := hZ (fun w' (hb : Below w.heap.size w w') => qB3 (.slice ay ny cy) (.slice ax nx cx) y.natAbs x.natAbs w' (qAd.below HY.o (Nat.le_refl _) hb) (qAd.below HX.o (Nat.le_refl _) hb) (by omega) (by omega))
  rw [qHI x y h1 h2] at Hc; rw [decide_eq_true h1, decide_eq_true h2]; clear h1 h2 HX HY
  go_enter Try.func60, Try.ntmps60
  go_wp2_with fail
  refine (Hc.o _ (HB.o true true)).mono ?_; rintro e w1 ⟨rfl, d, rfl⟩
  go_wp2
  go_ret; exact ⟨rfl, qBw (HB.o true true) d⟩
 ·have Hc := hZ (qBz (show x < y by omega))
  rw [decide_eq_true h1, decide_eq_false h2]; clear h1 h2 HX HY
  go_enter Try.func60, Try.ntmps60
  go_wp2
  go_ret; exact ⟨by rw [Hc.o]; rfl, HB.o true false⟩
 ·have Hc := hZ (qBr (show y < x by omega))
  rw [decide_eq_false h1, decide_eq_true h2]; clear h1 h2 HX HY
  go_enter Try.func60, Try.ntmps60
  go_wp2
  go_ret; exact ⟨by rw [Hc.o]; rfl, HB.o false true⟩
 ·have Hc := hZ (fun w' (hb : Below w.heap.size w w') => qB3 (.slice ax nx cx) (.slice ay ny cy) x.natAbs y.natAbs w' (qAd.below HX.o (Nat.le_refl _) hb) (qAd.below HY.o (Nat.le_refl _) hb) (by omega) (by omega))
  rw [qHH x y h1 h2] at Hc; rw [decide_eq_false h1, decide_eq_false h2]; clear h1 h2 HX HY
  go_enter Try.func60, Try.ntmps60
  go_wp2_with fail
  refine (Hc.o _ (HB.o false false)).mono ?_; rintro e w1 ⟨rfl, d, rfl⟩
  go_wp2
  go_ret; exact ⟨rfl, qBw (HB.o false false) d⟩
open Go.RowKit
theorem qDY (A B acc : List Nat) (i cy tot : Nat) (hl : acc.length = i) (hv : val T4 acc + T4 ^ i * (cy + val T4 (A.drop i) + val T4 (B.drop i)) = tot) (hA : Low T4 A) (hB : Low T4 B) (hcy : cy <= 1) :
 let x := A.getD i 0 + B.getD i 0 + cy
 x <= 19999 /\ val T4 (acc ++ [x % T4]) + T4 ^ (i + 1) * (x / T4 + val T4 (A.drop (i + 1)) + val T4 (B.drop (i + 1))) = tot := by
 intro x; have hd : ∀ L : List Nat, Low T4 L -> L.getD i 0 < T4 /\ val T4 (L.drop i) = L.getD i 0 + T4 * val T4 (L.drop (i + 1)) := by
  intro L hL; by_cases h : i < L.length
  ·have e : L.getD i 0 = L[i] := by simp [List.getD, h]
   rw [e, List.drop_eq_getElem_cons h]; exact ⟨hL _ (List.getElem_mem h), rfl⟩
  ·have e : L.getD i 0 = 0 := by simp [List.getD, h]
   rw [e, List.drop_of_length_le (by omega), List.drop_of_length_le (by omega)]; exact ⟨by decide, rfl⟩
 obtain ⟨a1, a2⟩ := hd A hA; obtain ⟨b1, b2⟩ := hd B hB; have h10 : T4 = 10000 := rfl; refine ⟨by show A.getD i 0 + B.getD i 0 + cy <= 19999; omega, ?_⟩; rw [a2, b2] at hv; rw [qAN, hl, <- hv, Nat.pow_succ]; have hx : x = T4 * (x / T4) + x % T4 := (Nat.div_add_mod x T4).symm; have hxe : A.getD i 0 + B.getD i 0 + cy = x := rfl; have h1 : val T4 [x % T4] = x % T4 := by simp [val]
 rw [h1]; generalize T4 ^ i = P; generalize val T4 (A.drop (i + 1)) = u at *; generalize val T4 (B.drop (i + 1)) = v at *; generalize A.getD i 0 = p at *; generalize B.getD i 0 = q at *; generalize x / T4 = d at *; generalize x % T4 = r at *; clear hv hd; have : cy + (p + T4 * u) + (q + T4 * v) = r + T4 * (d + u + v) := by rw [Nat.mul_add, Nat.mul_add]; omega
 rw [this]; generalize d + u + v = S; rw [Nat.mul_add P r, Nat.mul_assoc, Nat.add_assoc]
theorem qIH (va vb : Value) (m n : Nat) (w : World) (ha : qBx w va m) (hb : qBx w vb n) (hl1 : (qAe T4 m).length <= 1048576) (hl2 : (qAe T4 n).length <= 1048576) :
 Calls Try.prog 96 #[va, vb] w fun e w' => (∃ v L, e = .returned v /\ qAd .i64 w' v L /\ Low T4 L /\ val T4 L = m + n /\ L.length <= 2097153) /\ Below w.heap.size w w' := by
 obtain ⟨i0, hi, hz0, hz1, hz2⟩ := info_parts qDr; have Hi := hZ hi; have Hz0 := hZ hz0; have Hz1 := hZ hz1; have Hz2 := hZ hz2; clear hi hz0 hz1 hz2; have HA := hZ ha; have HBb := hZ hb; obtain ⟨a, ca, rfl, h1, h2, -⟩ := ha; obtain ⟨b, cb, rfl, h3, h4, -⟩ := hb; have Hat1 := hZ (fun w' (hb : Below w.heap.size w w') i hi => qHO _ (qAe T4 m) w' (qAd.below HA.o (Nat.le_refl _) hb) (by omega) i hi); have Hat2 := hZ (fun w' (hb : Below w.heap.size w w') i hi => qHO _ (qAe T4 n) w' (qAd.below HBb.o (Nat.le_refl _) hb) (by omega) i hi); have HLA := hZ (qAk T4 qAo m); have HLB := hZ (qAk T4 qAo n); have Htot : Hid (val T4 ([] : List Nat) + T4 ^ 0 * (0 + val T4 ((qAe T4 m).drop 0) + val T4 ((qAe T4 n).drop 0)) = m + n) := hZ (by
  rw [List.drop_zero, List.drop_zero, qAi T4 qAo, qAi T4 qAo]
  show 0 + 1 * (0 + m + n) = m + n
  omega)
 generalize qAe T4 m = A at *; generalize qAe T4 n = B at *; generalize hNA : A.length = NA at *; generalize hNB : B.length = NB at *; have HNA := hZ hNA; have HNB := hZ hNB; clear HA HBb hNA hNB
 go_enter Try.func96, Try.ntmps96
 go_wp2
 go_loopw [5, 6, 7] (fun ov cv iv7 wr => ∃ (acc : List Nat) (i cy : Nat) (ga : Option Addr) (gc : Nat), iv7 = .int .i64 (i : Int) /\ cv = .int .i64 (cy : Int) /\ ov = .slice ga acc.length gc /\ Hid (acc.length = i) /\ cy <= 1 /\ i <= NA + NB + 1 /\ (i <= NA + NB \/ cy = 0) /\ Hid (Low T4 acc) /\ Hid (val T4 acc + T4 ^ i * (cy + val T4 (A.drop i) + val T4 (B.drop i)) = m + n) /\ Hid (wr.ownsRow w.heap.size 3 1 (.slice ga acc.length gc) acc.length (acc.map (iv .i64))) /\ Hid (Below w.heap.size w wr)) (fun _ _ v _ => NA + NB + 2 - (qIs v - 1))
 case atStart => exact ⟨[], 0, 0, none, 0, rfl, rfl, rfl, hZ rfl, by omega, by omega, by omega, hZ (fun x hx => by cases hx), Htot, hZ (World.ownsRow_nil _ _ _ _), hZ (Below.refl _ _)⟩
 case round =>
  obtain ⟨acc, i, cy, ga, gc, rfl, rfl, rfl, hai, hcy, hil, hor, hlow, hval, hown, hB⟩ := hrel; have hal := hai.o; have hgc : gc <= 9223372036854775807 := by
   rcases hown.o.2 with ⟨hv, _⟩ | ⟨_, _, _, hv, _, _, _, h3, _⟩
   ·injection hv with _ _ e; omega
   ·injection hv with _ _ e; unfold maxLen at h3; omega
  have hal2 : acc.length <= 2097153 := by omega
  have hzr := hB.o.size; clear hal; by_cases hmore : i < NA
  ·have Hps := hZ (qDY A B acc i cy (m + n) hai.o hval.o HLA.o HLB.o hcy)
   obtain ⟨x1, hx1⟩ := eX (A.getD i 0); obtain ⟨x2, hx2⟩ := eX (B.getD i 0); have Hc1 := hZ (Hat1.o wr hB.o i (by omega)); have Hc2 := hZ (Hat2.o wr hB.o i (by omega)); rw [hx1] at Hc1 Hps; rw [hx2] at Hc2 Hps; have hx := Hps.o.1; obtain ⟨k, hk⟩ := eX ((x1 + x2 + cy) % T4); obtain ⟨q, hq⟩ := eX ((x1 + x2 + cy) / T4); have hk' : (x1 + x2 + cy) % 10000 = k := hk; have hq' : (x1 + x2 + cy) / 10000 = q := hq; have hkI : ((x1 : Int) + (x2 : Int) + (cy : Int)) % 10000 = (k : Int) := by omega
   have hqI : ((x1 : Int) + (x2 : Int) + (cy : Int)) / 10000 = (q : Int) := by omega
   have hkl : k < 10000 := by omega
   have hq1 : q <= 1 := by omega
   have Hv2 := Hps.o.2; rw [hk, hq] at Hv2; have Hv := hZ Hv2; clear Hv2 hk hq hk' hq' hx1 hx2
   go_wp2_with fail
   refine Hc1.o.mono ?_; rintro e w7 ⟨rfl, rfl⟩
   go_wp2_with fail
   refine Hc2.o.mono ?_; rintro e w8 ⟨rfl, rfl⟩
   go_wp2_with (at_builtin; refine wpList_append_own _ rfl _ _ 22 rfl w.heap.size 3 i0 _ 1 8 Try.underlying22 Hi.o Hz0.o Hz1.o Hz2.o rfl (by decide) _ _ _ rfl (hown.o.alloc _) ⟨w8.heap.size, 0, none⟩ 1 1 [iv .i64 k] rfl rfl (cell_one_new _ _ _) (by simp [Value.oneCell', iv]) (by unfold maxLen; omega) (by omega) (by simp; omega) ?_)
   intro v5 w5 hown5 hgrow _; obtain ⟨g5, cap5, hv5, _⟩ := hown5.form (by omega); subst hv5; have Hown5 : Hid (w5.ownsRow w.heap.size 3 1 (.slice (some ⟨g5, 0, none⟩) (acc ++ [k]).length cap5) (acc ++ [k]).length ((acc ++ [k]).map (iv .i64))) := hZ (by rw [List.length_append, List.map_append]; exact hown5); have HB5 := hZ ((hB.o.alloc hB.o.size (.cells #[.int .i64 (k : Int)] 3)).grown hgrow (by simp; have := hB.o.size; omega) (fun k e => (hown.o.lt k e).1)); clear hown5 hgrow
   go_wp2
   go_roundw
   case rel => exact ⟨acc ++ [k], i + 1, q, some ⟨g5, 0, none⟩, cap5, by simp, by rw [hqI], by simp, hZ (by rw [List.length_append, hai.o]; rfl), hq1, by omega, by omega, hZ (fun y hy => by rcases List.mem_append.1 hy with hy | hy; exact hlow.o y hy; rw [List.mem_singleton.1 hy]; exact hkl), Hv, Hown5, HB5⟩
   case measure => simp [qIs]; omega
  ·by_cases hmore2 : i < NB
   ·have Hps := hZ (qDY A B acc i cy (m + n) hai.o hval.o HLA.o HLB.o hcy)
    obtain ⟨x1, hx1⟩ := eX (A.getD i 0); obtain ⟨x2, hx2⟩ := eX (B.getD i 0); have Hc1 := hZ (Hat1.o wr hB.o i (by omega)); have Hc2 := hZ (Hat2.o wr hB.o i (by omega)); rw [hx1] at Hc1 Hps; rw [hx2] at Hc2 Hps; have hx := Hps.o.1; obtain ⟨k, hk⟩ := eX ((x1 + x2 + cy) % T4); obtain ⟨q, hq⟩ := eX ((x1 + x2 + cy) / T4); have hk' : (x1 + x2 + cy) % 10000 = k := hk; have hq' : (x1 + x2 + cy) / 10000 = q := hq; have hkI : ((x1 : Int) + (x2 : Int) + (cy : Int)) % 10000 = (k : Int) := by omega
    have hqI : ((x1 : Int) + (x2 : Int) + (cy : Int)) / 10000 = (q : Int) := by omega
    have hkl : k < 10000 := by omega
    have hq1 : q <= 1 := by omega
    have Hv2 := Hps.o.2; rw [hk, hq] at Hv2; have Hv := hZ Hv2; clear Hv2 hk hq hk' hq' hx1 hx2
    go_wp2_with fail
    refine Hc1.o.mono ?_; rintro e w7 ⟨rfl, rfl⟩
    go_wp2_with fail
    refine Hc2.o.mono ?_; rintro e w8 ⟨rfl, rfl⟩
    go_wp2_with (at_builtin; refine wpList_append_own _ rfl _ _ 22 rfl w.heap.size 3 i0 _ 1 8 Try.underlying22 Hi.o Hz0.o Hz1.o Hz2.o rfl (by decide) _ _ _ rfl (hown.o.alloc _) ⟨w8.heap.size, 0, none⟩ 1 1 [iv .i64 k] rfl rfl (cell_one_new _ _ _) (by simp [Value.oneCell', iv]) (by unfold maxLen; omega) (by omega) (by simp; omega) ?_)
    intro v5 w5 hown5 hgrow _; obtain ⟨g5, cap5, hv5, _⟩ := hown5.form (by omega); subst hv5; have Hown5 : Hid (w5.ownsRow w.heap.size 3 1 (.slice (some ⟨g5, 0, none⟩) (acc ++ [k]).length cap5) (acc ++ [k]).length ((acc ++ [k]).map (iv .i64))) := hZ (by rw [List.length_append, List.map_append]; exact hown5); have HB5 := hZ ((hB.o.alloc hB.o.size (.cells #[.int .i64 (k : Int)] 3)).grown hgrow (by simp; have := hB.o.size; omega) (fun k e => (hown.o.lt k e).1)); clear hown5 hgrow
    go_wp2
    go_roundw
    case rel => exact ⟨acc ++ [k], i + 1, q, some ⟨g5, 0, none⟩, cap5, by simp, by rw [hqI], by simp, hZ (by rw [List.length_append, hai.o]; rfl), hq1, by omega, by omega, hZ (fun y hy => by rcases List.mem_append.1 hy with hy | hy; exact hlow.o y hy; rw [List.mem_singleton.1 hy]; exact hkl), Hv, Hown5, HB5⟩
    case measure => simp [qIs]; omega
   ·skip
    by_cases hcy1 : 0 < cy
    ·have Hps := hZ (qDY A B acc i cy (m + n) hai.o hval.o HLA.o HLB.o hcy)
     obtain ⟨x1, hx1⟩ := eX (A.getD i 0); obtain ⟨x2, hx2⟩ := eX (B.getD i 0); have Hc1 := hZ (Hat1.o wr hB.o i (by omega)); have Hc2 := hZ (Hat2.o wr hB.o i (by omega)); rw [hx1] at Hc1 Hps; rw [hx2] at Hc2 Hps; have hx := Hps.o.1; obtain ⟨k, hk⟩ := eX ((x1 + x2 + cy) % T4); obtain ⟨q, hq⟩ := eX ((x1 + x2 + cy) / T4); have hk' : (x1 + x2 + cy) % 10000 = k := hk; have hq' : (x1 + x2 + cy) / 10000 = q := hq; have hkI : ((x1 : Int) + (x2 : Int) + (cy : Int)) % 10000 = (k : Int) := by omega
     have hqI : ((x1 : Int) + (x2 : Int) + (cy : Int)) / 10000 = (q : Int) := by omega
     have hkl : k < 10000 := by omega
     have hq1 : q <= 1 := by omega
     have Hv2 := Hps.o.2; rw [hk, hq] at Hv2; have Hv := hZ Hv2; have hx1z : x1 = 0 := by rw [<- hx1]; simp [List.getD, List.getElem?_eq_none (show A.length <= i by rw [HNA.o]; omega)]
     have hx2z : x2 = 0 := by rw [<- hx2]; simp [List.getD, List.getElem?_eq_none (show B.length <= i by rw [HNB.o]; omega)]
     have hq0 : q = 0 := by omega
     have Hq0 := hZ hq0; clear Hv2 hk hq hk' hq' hx1 hx2 hx1z hx2z hq0
     go_wp2_with fail
     refine Hc1.o.mono ?_; rintro e w7 ⟨rfl, rfl⟩
     go_wp2_with fail
     refine Hc2.o.mono ?_; rintro e w8 ⟨rfl, rfl⟩
     go_wp2_with (at_builtin; refine wpList_append_own _ rfl _ _ 22 rfl w.heap.size 3 i0 _ 1 8 Try.underlying22 Hi.o Hz0.o Hz1.o Hz2.o rfl (by decide) _ _ _ rfl (hown.o.alloc _) ⟨w8.heap.size, 0, none⟩ 1 1 [iv .i64 k] rfl rfl (cell_one_new _ _ _) (by simp [Value.oneCell', iv]) (by unfold maxLen; omega) (by omega) (by simp; omega) ?_)
     intro v5 w5 hown5 hgrow _; obtain ⟨g5, cap5, hv5, _⟩ := hown5.form (by omega); subst hv5; have Hown5 : Hid (w5.ownsRow w.heap.size 3 1 (.slice (some ⟨g5, 0, none⟩) (acc ++ [k]).length cap5) (acc ++ [k]).length ((acc ++ [k]).map (iv .i64))) := hZ (by rw [List.length_append, List.map_append]; exact hown5); have HB5 := hZ ((hB.o.alloc hB.o.size (.cells #[.int .i64 (k : Int)] 3)).grown hgrow (by simp; have := hB.o.size; omega) (fun k e => (hown.o.lt k e).1)); clear hown5 hgrow
     go_wp2
     go_roundw
     case rel => exact ⟨acc ++ [k], i + 1, q, some ⟨g5, 0, none⟩, cap5, by simp, by rw [hqI], by simp, hZ (by rw [List.length_append, hai.o]; rfl), hq1, by omega, .inr Hq0.o, hZ (fun y hy => by rcases List.mem_append.1 hy with hy | hy; exact hlow.o y hy; rw [List.mem_singleton.1 hy]; exact hkl), Hv, Hown5, HB5⟩
     case measure => simp [qIs]; omega
    ·obtain rfl : cy = 0 := by omega
     go_wp2
     go_ret; refine ⟨⟨_, rfl, acc, qAd.of_owns hown.o rfl, hlow.o, ?_, by omega⟩, hB.o⟩; have h9 := hval.o; rw [List.drop_of_length_le (by rw [HNA.o]; omega), List.drop_of_length_le (by rw [HNB.o]; omega)] at h9; rw [<- h9]; simp [val]
open Go.RowKit
theorem qHu {b : Nat} (hb : 0 < b) (L : List Nat) (hL : Low b L) (i : Nat) : L.getD i 0 < b := by
 by_cases h : i < L.length
 ·have e : L.getD i 0 = L[i] := by simp [List.getD, h]
  rw [e]; exact hL _ (List.getElem_mem h)
 ·have e : L.getD i 0 = 0 := by simp [List.getD, h]
  rw [e]; exact hb
theorem qCW (b : Nat) (L : List Nat) (i : Nat) : val b (L.take (i + 1)) = val b (L.take i) + L.getD i 0 * b ^ i := by
 by_cases h : i < L.length
 ·have e : L.getD i 0 = L[i] := by simp [List.getD, h]
  rw [e, qAf b L i h]
 ·have e : L.getD i 0 = 0 := by simp [List.getD, h]
  rw [e, List.take_of_length_le (by omega), List.take_of_length_le (by omega)]; omega
theorem qH9 (A B acc : List Nat) (i br k q : Nat) (hl : acc.length = i) (hv : val T4 acc + val T4 (B.take i) = val T4 (A.take i) + br * T4 ^ i) (hk : k + B.getD i 0 + br = A.getD i 0 + q * 10000) :
 val T4 (acc ++ [k]) + val T4 (B.take (i + 1)) = val T4 (A.take (i + 1)) + q * T4 ^ (i + 1) := by
 rw [qAN, hl, qCW, qCW, Nat.pow_succ]; have h1 : val T4 [k] = k := by simp [val]
 rw [h1]; have hk2 : k + B.getD i 0 + br = A.getD i 0 + q * T4 := hk; generalize T4 ^ i = P at *; generalize val T4 (A.take i) = u at *; generalize val T4 (B.take i) = v at *; generalize A.getD i 0 = p at *; generalize B.getD i 0 = s at *; generalize val T4 acc = x at *; generalize T4 = t at *; clear hl h1 hk; have := congrArg (· * P) hk2; simp only [Nat.add_mul] at this; rw [Nat.mul_comm P t, <- Nat.mul_assoc, Nat.mul_comm P k]; omega
theorem qIa (A B acc : List Nat) (br : Nat) (hl : acc.length = A.length) (hlow : Low T4 acc) (hle : val T4 B <= val T4 A) (hBA : B.length <= A.length) (hbr : br <= 1) (hv : val T4 acc + val T4 (B.take A.length) = val T4 (A.take A.length) + br * T4 ^ A.length) :
 val T4 acc = val T4 A - val T4 B := by
 rw [List.take_of_length_le hBA, List.take_of_length_le (Nat.le_refl _)] at hv; have h3 := qBd T4 (by decide) acc hlow; rw [hl] at h3; rcases Nat.eq_zero_or_pos br with h | h
 ·subst h; omega
 ·obtain rfl : br = 1 := by omega
  omega
theorem qEz (va vb : Value) (m n : Nat) (w : World) (ha : qBx w va m) (hb : qBx w vb n) (hnm : n <= m) (hl1 : (qAe T4 m).length <= 2097153) :
 Calls Try.prog 70 #[va, vb] w fun e w' => (∃ v L, e = .returned v /\ qAd .i64 w' v L /\ Low T4 L /\ val T4 L = m - n /\ L.length = (qAe T4 m).length /\ ∀ ad l c, v = .slice (some ad) l c -> w.heap.size <= ad.block) /\ Below w.heap.size w w' := by
 obtain ⟨i0, hi, hz0, hz1, hz2⟩ := info_parts qDr; have Hi := hZ hi; have Hz0 := hZ hz0; have Hz1 := hZ hz1; have Hz2 := hZ hz2; clear hi hz0 hz1 hz2; have HA := hZ ha; have HBb := hZ hb; have hl2 := qAL T4 qAo n m hnm; obtain ⟨a, ca, rfl, h1, h2, -⟩ := ha; obtain ⟨b, cb, rfl, h3, h4, -⟩ := hb; have Hat1 := hZ (fun w' (hb : Below w.heap.size w w') i hi => qHO _ (qAe T4 m) w' (qAd.below HA.o (Nat.le_refl _) hb) (by omega) i hi); have Hat2 := hZ (fun w' (hb : Below w.heap.size w w') i hi => qHO _ (qAe T4 n) w' (qAd.below HBb.o (Nat.le_refl _) hb) (by omega) i hi); have HLA := hZ (qAk T4 qAo m); have HLB := hZ (qAk T4 qAo n); have Hvm := hZ (qAi T4 qAo m); have Hvn := hZ (qAi T4 qAo n); generalize qAe T4 m = A at *; generalize qAe T4 n = B at *; generalize hNA : A.length = NA at *; generalize hNB : B.length = NB at *; have HNA := hZ hNA; have HNB := hZ hNB; have Hnm := hZ hnm; clear HA HBb hNA hNB hnm
 go_enter Try.func70, Try.ntmps70
 go_wp2
 go_loopw [5, 6, 7] (fun ov cv iv7 wr => ∃ (acc : List Nat) (i br : Nat) (ga : Option Addr) (gc : Nat), iv7 = .int .i64 (i : Int) /\ cv = .int .i64 (br : Int) /\ ov = .slice ga acc.length gc /\ Hid (acc.length = i) /\ br <= 1 /\ i <= NA /\ Hid (Low T4 acc) /\ Hid (val T4 acc + val T4 (B.take i) = val T4 (A.take i) + br * T4 ^ i) /\ Hid (wr.ownsRow w.heap.size 3 1 (.slice ga acc.length gc) acc.length (acc.map (iv .i64))) /\ Hid (Below w.heap.size w wr)) (fun _ _ v _ => NA + 2 - (qIs v - 1))
 case atStart => exact ⟨[], 0, 0, none, 0, rfl, rfl, rfl, hZ rfl, by omega, by omega, hZ (fun x hx => by cases hx), hZ (by simp [val]), hZ (World.ownsRow_nil _ _ _ _), hZ (Below.refl _ _)⟩
 case round =>
  obtain ⟨acc, i, br, ga, gc, rfl, rfl, rfl, hai, hbr, hil, hlow, hval, hown, hB⟩ := hrel; have hal := hai.o; have hgc : gc <= 9223372036854775807 := by
   rcases hown.o.2 with ⟨hv, _⟩ | ⟨_, _, _, hv, _, _, _, h3, _⟩
   ·injection hv with _ _ e; omega
   ·injection hv with _ _ e; unfold maxLen at h3; omega
  have hal2 : acc.length <= 2097153 := by omega
  have hzr := hB.o.size; clear hal; by_cases hmore : i < NA
  ·have Hps := hZ (fun k q => qH9 A B acc i br k q hai.o hval.o)
   have hx1l := qHu (by decide) A HLA.o i; have hx2l := qHu (by decide) B HLB.o i; obtain ⟨x1, hx1⟩ := eX (A.getD i 0); obtain ⟨x2, hx2⟩ := eX (B.getD i 0); have Hc1 := hZ (Hat1.o wr hB.o i (by omega)); have Hc2 := hZ (Hat2.o wr hB.o i (by omega)); rw [hx1] at Hc1 Hps hx1l; rw [hx2] at Hc2 Hps hx2l; have hx1m : x1 < 10000 := hx1l; have hx2m : x2 < 10000 := hx2l; clear hx1 hx2 hx1l hx2l; by_cases hlt : x1 < x2 + br
   ·obtain ⟨k, hk⟩ : ∃ k, k + x2 + br = x1 + 1 * 10000 := ⟨x1 + 10000 - x2 - br, by omega⟩
    have hkI : (x1 : Int) - (x2 : Int) - (br : Int) + 10000 = (k : Int) := by omega
    have hneg : (x1 : Int) - (x2 : Int) - (br : Int) < 0 := by omega
    have hkl : k < 10000 := by omega
    have Hv := hZ (Hps.o k 1 hk); clear hk hlt Hps
    go_wp2_with fail
    refine Hc1.o.mono ?_; rintro e w7 ⟨rfl, rfl⟩
    go_wp2_with fail
    refine Hc2.o.mono ?_; rintro e w8 ⟨rfl, rfl⟩
    go_wp2_with (at_builtin; refine wpList_append_own _ rfl _ _ 22 rfl w.heap.size 3 i0 _ 1 8 Try.underlying22 Hi.o Hz0.o Hz1.o Hz2.o rfl (by decide) _ _ _ rfl (hown.o.alloc _) ⟨w8.heap.size, 0, none⟩ 1 1 [iv .i64 k] rfl rfl (cell_one_new _ _ _) (by simp [Value.oneCell', iv]) (by unfold maxLen; omega) (by omega) (by simp; omega) ?_)
    intro v5 w5 hown5 hgrow _; obtain ⟨g5, cap5, hv5, _⟩ := hown5.form (by omega); subst hv5; have Hown5 : Hid (w5.ownsRow w.heap.size 3 1 (.slice (some ⟨g5, 0, none⟩) (acc ++ [k]).length cap5) (acc ++ [k]).length ((acc ++ [k]).map (iv .i64))) := hZ (by rw [List.length_append, List.map_append]; exact hown5); have HB5 := hZ ((hB.o.alloc hB.o.size (.cells #[.int .i64 (k : Int)] 3)).grown hgrow (by simp; have := hB.o.size; omega) (fun k e => (hown.o.lt k e).1)); clear hown5 hgrow
    go_wp2
    go_roundw
    case rel => exact ⟨acc ++ [k], i + 1, 1, some ⟨g5, 0, none⟩, cap5, by simp, rfl, by simp, hZ (by rw [List.length_append, hai.o]; rfl), by omega, by omega, hZ (fun y hy => by rcases List.mem_append.1 hy with hy | hy; exact hlow.o y hy; rw [List.mem_singleton.1 hy]; exact hkl), Hv, Hown5, HB5⟩
    case measure => simp [qIs]; omega
   ·obtain ⟨k, hk⟩ : ∃ k, k + x2 + br = x1 + 0 * 10000 := ⟨x1 - x2 - br, by omega⟩
    have hkI : (x1 : Int) - (x2 : Int) - (br : Int) = (k : Int) := by omega
    have hkl : k < 10000 := by omega
    have Hv := hZ (Hps.o k 0 hk); clear hk hlt Hps
    go_wp2_with fail
    refine Hc1.o.mono ?_; rintro e w7 ⟨rfl, rfl⟩
    go_wp2_with fail
    refine Hc2.o.mono ?_; rintro e w8 ⟨rfl, rfl⟩
    go_wp2_with (at_builtin; refine wpList_append_own _ rfl _ _ 22 rfl w.heap.size 3 i0 _ 1 8 Try.underlying22 Hi.o Hz0.o Hz1.o Hz2.o rfl (by decide) _ _ _ rfl (hown.o.alloc _) ⟨w8.heap.size, 0, none⟩ 1 1 [iv .i64 k] rfl rfl (cell_one_new _ _ _) (by simp [Value.oneCell', iv]) (by unfold maxLen; omega) (by omega) (by simp; omega) ?_)
    intro v5 w5 hown5 hgrow _; obtain ⟨g5, cap5, hv5, _⟩ := hown5.form (by omega); subst hv5; have Hown5 : Hid (w5.ownsRow w.heap.size 3 1 (.slice (some ⟨g5, 0, none⟩) (acc ++ [k]).length cap5) (acc ++ [k]).length ((acc ++ [k]).map (iv .i64))) := hZ (by rw [List.length_append, List.map_append]; exact hown5); have HB5 := hZ ((hB.o.alloc hB.o.size (.cells #[.int .i64 (k : Int)] 3)).grown hgrow (by simp; have := hB.o.size; omega) (fun k e => (hown.o.lt k e).1)); clear hown5 hgrow
    go_wp2
    go_roundw
    case rel => exact ⟨acc ++ [k], i + 1, 0, some ⟨g5, 0, none⟩, cap5, by simp, rfl, by simp, hZ (by rw [List.length_append, hai.o]; rfl), by omega, by omega, hZ (fun y hy => by rcases List.mem_append.1 hy with hy | hy; exact hlow.o y hy; rw [List.mem_singleton.1 hy]; exact hkl), Hv, Hown5, HB5⟩
    case measure => simp [qIs]; omega
  ·obtain rfl : i = NA := by omega
   go_wp2
   go_ret; refine ⟨⟨_, acc, rfl, qAd.of_owns hown.o rfl, hlow.o, ?_, hai.o, fun ad l c e => ?_⟩, hB.o⟩; rotate_left
   ·refine (hown.o.lt ad.block ?_).1
    have e' : Value.slice ga acc.length gc = .slice (some ad) l c := e; rw [e']; rfl
   rw [<- Hvm.o, <- Hvn.o]; refine qIa A B acc br (by rw [HNA.o]; exact hai.o) hlow.o (by rw [Hvm.o, Hvn.o]; exact Hnm.o) (by rw [HNA.o, HNB.o]; exact hl2) hbr ?_; rw [HNA.o]; exact hval.o
theorem qEA (va vb : Value) (m n : Nat) (w : World) (ha : qBx w va m) (hb : qBx w vb n) (hnm : n <= m) (hl1 : (qAe T4 m).length <= 2097153) :
 Calls Try.prog 70 #[va, vb] w fun e w' => (∃ v L, e = .returned v /\ qAd .i64 w' v L /\ Low T4 L /\ val T4 L = m - n /\ L.length = (qAe T4 m).length) /\ Below w.heap.size w w' :=
 (qEz va vb m n w ha hb hnm hl1).mono (by rintro e w' ⟨⟨v, L, rfl, h1, h2, h3, h4, -⟩, hB⟩; exact ⟨⟨v, L, rfl, h1, h2, h3, h4⟩, hB⟩)
end Go.Proofs.Ytlmbebbdamgfpaa
