/- A matrix with one more row, as the laws of lattice make it; what Hermite and Kernel answer, as a function. -/
import Derived.Test.YtlmbebbdamgfpaaQHGAppI
import Derived.Test.YtlmbebbdamgfpaaQHLEchP
import Derived.Test.YtlmbebbdamgfpaaQHLSmall
import Derived.Test.YtlmbebbdamgfpaaQHLawLMany
set_option linter.unusedVariables false
set_option linter.unusedSimpArgs false
set_option maxHeartbeats 8000000
set_option maxRecDepth 100000
namespace Go.Proofs.Ytlmbebbdamgfpaa
open Go.RowKit
theorem qAo.of_own {w : World} {base : Nat} {a : Option Addr} {c : Nat} {r : List Int} (h : w.ownsRow base 3 1 (.slice a r.length c) r.length (r.map zv)) : qAo w (.slice a r.length c) r := by
 rcases id h.2 with ⟨hv, h0⟩ | ⟨g, cap, cur, hv, _, hg, h1, h2, _⟩
 ·injection hv with e1 e2 e3
  subst e1 e3; exact ⟨none, 0, rfl, by omega, by omega, fun h9 => by omega⟩
 ·injection hv with e1 e2 e3
  subst e1 e3; unfold maxLen at h2; refine ⟨_, c, rfl, h1, by omega, fun _ => ⟨g, rfl, (Array.getElem?_eq_some_iff.1 hg).1, fun j hj => ⟨_, rfl, rfl, fun i hi => ?_⟩⟩⟩; obtain rfl : i = 0 := by omega
  rw [Nat.mul_one, Nat.add_zero, h.cellAt j (by omega)]; simp [hj, zv]
abbrev Yw := Option Addr × Nat
def yV (n : Nat) (x : Yw) : Value := .slice x.1 n x.2
structure YMt (w : World) (B : Nat) (v : Value) (l : List Yw) (n : Nat) (M : List (List Int)) : Prop where
 own : w.ownsRow B 22 1 v l.length (l.map (yV n))
 len : M.length = l.length
 row : ∀ i (h : i < l.length) (h' : i < M.length), w.ownsRow B 3 1 (yV n l[i]) n (M[i].map zv) /\ M[i].length = n
 nodup : ∀ i j (h : i < l.length) (h' : j < l.length) g, i ≠ j -> (yV n l[i]).ownBlock = some g -> (yV n l[j]).ownBlock ≠ some g
section
variable {w w' : World} {B n : Nat} {v : Value} {l : List Yw} {M : List (List Int)}
theorem YMt.only {S : Nat -> Prop} (h : YMt w B v l n M) (ho : qAc S w w') (hv : ∀ g, v.ownBlock = some g -> ¬ S g) (hr : ∀ i (hi : i < l.length) g, (yV n l[i]).ownBlock = some g -> ¬ S g) : YMt w' B v l n M :=
 ⟨ho.own h.own hv, h.len, fun i hi hi' => ⟨ho.own (h.row i hi hi').1 (hr i hi), (h.row i hi hi').2⟩, h.nodup⟩
theorem YMt.blw (h : YMt w B v l n M) (hb : Below w.heap.size w w') : YMt w' B v l n M := h.only (S := fun _ => False) (qAc.of_below hb) (fun _ _ h => h) (fun _ _ _ _ h => h)
instance : Mv w w' (YMt w B v l n M) (YMt w' B v l n M) := ⟨fun hb h => YMt.blw h hb⟩
theorem YMt.mat (h : YMt w B v l n M) : qAA w v M := by
 refine qAh.of_own (css := l.map (fun x => [yV n x])) (base := B) (e := 22) (by rw [qBA, List.length_map]; exact h.own) (fun cs h => by obtain ⟨x, _, rfl⟩ := List.mem_map.1 h; rfl) (by rw [List.length_map]; exact h.len.symm) (fun j h1 h2 => ?_); have h3 : j < l.length := by rw [<- h.len]; exact h1
 obtain ⟨k1, k2⟩ := h.row j h3 h1; rw [List.getElem_map]; refine ⟨_, rfl, ?_⟩; have := qAo.of_own (r := M[j]) (a := l[j].1) (c := l[j].2) (by rw [k2]; exact k1)
 rwa [k2] at this
theorem qHC {w : World} {B B' n n' k k' g : Nat} {t t' : TypeId} {v v' : Value} {xs xs' : List Value} (h : w.ownsRow B t k v n xs) (h' : w.ownsRow B' t' k' v' n' xs') (hv : v.ownBlock = some g) (hv' : v'.ownBlock = some g) : t = t' := by
 rcases h.2 with ⟨e, _⟩ | ⟨g1, cap, cur, e, _, hg, _⟩
 ·rw [e] at hv; cases hv
 ·rcases h'.2 with ⟨e', _⟩ | ⟨g2, cap', cur', e', _, hg', _⟩
  ·rw [e'] at hv'; cases hv'
  ·rw [e] at hv
   rw [e'] at hv'; simp only [Value.ownBlock, Option.some.injEq] at hv hv'; subst hv hv'; rw [hg] at hg'; injection hg' with hg'; injection hg' with _ h2 _
theorem YMt.apart (h : YMt w B v l n M) (i : Nat) (hi : i < l.length) (g : Nat) (h1 : (yV n l[i]).ownBlock = some g) : v.ownBlock ≠ some g := fun h2 => by
 have := qHC (h.row i hi (by rw [h.len]; exact hi)).1 h.own h1 h2; exact absurd this (by decide)
theorem YMt.some_ (h : YMt w B v l n M) (hn : 0 < n) (i : Nat) (hi : i < l.length) : ∃ g, l[i].1 = some ⟨g, 0, none⟩ /\ B <= g /\ g < w.heap.size /\ n <= l[i].2 := by
 rcases (h.row i hi (by rw [h.len]; exact hi)).1.2 with ⟨e, _⟩ | ⟨g, cap, cur, e, hb, hg, hnc, _⟩
 ·injection e with _ e _; omega
 ·injection e with e1 e2 e3
  exact ⟨g, e1, hb, (Array.getElem?_eq_some_iff.1 hg).1, by rw [e3]; exact hnc⟩
theorem YMt.ocell (h : YMt w B v l n M) {R c : Nat} (hv : v = .slice (some ⟨R, 0, none⟩) l.length c) (i : Nat) (hi : i < l.length) : w.cell? ⟨R, i, none⟩ = some (.slice l[i].1 n l[i].2) := by
 have h1 := h.own; rw [hv] at h1; rw [h1.cellAt i (by omega), List.getElem?_map, List.getElem?_eq_getElem hi]; rfl
theorem YMt.cell (h : YMt w B v l n M) {g : Nat} (i : Nat) (hi : i < l.length) (hg : l[i].1 = some ⟨g, 0, none⟩) (j : Nat) (hj : j < n) (hi' : i < M.length) (hj' : j < M[i].length) : w.cell? ⟨g, j, none⟩ = some (.int .i64 M[i][j]) := by
 have h1 := (h.row i hi hi').1; rw [yV, hg] at h1; rw [h1.cellAt j (by omega)]; simp [hj', zv]
theorem YMt.frozen (h : YMt w B v l n M) {g : Nat} (i : Nat) (hi : i < l.length) (hg : l[i].1 = some ⟨g, 0, none⟩) (j : Nat) : w.frozen? ⟨g, j, none⟩ = false := by
 have h1 := (h.row i hi (by rw [h.len]; exact hi)).1; rw [yV, hg] at h1; exact h1.frozenAt j
theorem YMt.put (h : YMt w B v l n M) {g i j : Nat} (hi : i < l.length) (hi' : i < M.length) (hg : l[i].1 = some ⟨g, 0, none⟩) (z : Int) : YMt (w.setCell ⟨g, j, none⟩ (.int .i64 z)) B v l n (M.set i (M[i].set j z)) := by
 have ho : qAc (fun b => b = g) w (w.setCell ⟨g, j, none⟩ (.int .i64 z)) := (qAc.refl (fun b => b = g) w).set (p := ⟨g, j, none⟩) rfl _; have hgi : (yV n l[i]).ownBlock = some g := by rw [yV, hg]; rfl
 refine ⟨ho.own h.own (fun b hb e => h.apart i hi g hgi (by rw [hb, e])), by rw [List.length_set]; exact h.len, fun k hk hk' => ?_, h.nodup⟩; have hk2 : k < M.length := by simpa using hk'
 by_cases e : k = i
 ·subst e
  obtain ⟨h1, h2⟩ := h.row k hk hk2; rw [List.getElem_set_self]; refine ⟨?_, by rw [List.length_set]; exact h2⟩; rw [yV, hg] at h1 ⊢; have := (h1.stored j (.int .i64 z)).1
  rwa [show (Value.int .i64 z) = zv z from rfl, <- List.map_set] at this
 ·rw [List.getElem_set_ne (Ne.symm e)]
  exact ⟨ho.own (h.row k hk hk2).1 (fun b hb e2 => h.nodup k i hk hi b e hb (by rw [hgi, e2])), (h.row k hk hk2).2⟩
theorem YMt.swap {R c : Nat} (h : YMt w B (.slice (some ⟨R, 0, none⟩) l.length c) l n M) {a b : Nat} (ha : a < l.length) (hb : b < l.length) (ha' : a < M.length) (hb' : b < M.length) :
 YMt ((w.setCell ⟨R, a, none⟩ (.slice l[b].1 n l[b].2)).setCell ⟨R, b, none⟩ (.slice l[a].1 n l[a].2)) B (.slice (some ⟨R, 0, none⟩) l.length c) (qAu l a b ha hb) n (qAu M a b ha' hb') := by
 have ho : qAc (fun g => g = R) w ((w.setCell ⟨R, a, none⟩ (.slice l[b].1 n l[b].2)).setCell ⟨R, b, none⟩ (.slice l[a].1 n l[a].2)) := ((qAc.refl (fun g => g = R) w).set (p := ⟨R, a, none⟩) rfl _).set (p := ⟨R, b, none⟩) rfl _; have inj : ∀ i (hi : i < l.length), (qAu l a b ha hb)[i]'(by rw [qAb]; exact hi) = l[sw a b i]'(qCb ha hb hi) := fun i hi => by
  rw [qAq i hi]; unfold sw
  split
  ·rfl
  ·split <;> rfl
 have injM : ∀ i (hi : i < M.length), (qAu M a b ha' hb')[i]'(by rw [qAb]; exact hi) = M[sw a b i]'(qCb ha' hb' hi) := fun i hi => by
  rw [qAq i hi]; unfold sw
  split
  ·rfl
  ·split <;> rfl
 refine ⟨?_, by rw [qAb, qAb, h.len], fun i hi hi' => ?_, fun i j hi hj g hij => ?_⟩
 ·have h1 := ((h.own.stored a (.slice l[b].1 n l[b].2)).1.stored b (.slice l[a].1 n l[a].2)).1
  rw [qAb]; have e : (qAu l a b ha hb).map (yV n) = ((l.map (yV n)).set a (.slice l[b].1 n l[b].2)).set b (.slice l[a].1 n l[a].2) := by unfold qAu; rw [List.map_set, List.map_set]; rfl
  rw [e]; exact h1
 ·rw [qAb] at hi hi'
  simp only [inj i hi, injM i hi']; obtain ⟨h1, h2⟩ := h.row _ (qCb ha hb hi) (qCb ha' hb' hi'); exact ⟨ho.own h1 (fun g hg e => h.apart _ (qCb ha hb hi) g hg (by rw [e]; rfl)), h2⟩
 ·rw [qAb] at hi hj
  simp only [inj i hi, inj j hj]; exact h.nodup _ _ _ _ g (fun e => hij (qFQ e))
end
def qC8 (m : List (List Int)) (n : Nat) (a k : Int) : List (List Int) :=
 if 0 < m.length /\ 0 < n then m.set (qA9 a m.length).toNat ((m[(qA9 a m.length).toNat]?.getD []).set (qA9 (a.tdiv 5) n).toNat k) else m
theorem qBl {m : List (List Int)} {n : Nat} {a k : Int} : (qC8 m n a k).length = m.length := by unfold qC8; split <;> simp
open Go.RowKit
theorem YMt.nil (w : World) (B n : Nat) : YMt w B (.slice none 0 0) [] n [] := ⟨World.ownsRow_nil _ _ _ _, rfl, fun i h => by simp at h, fun i j h => by simp at h⟩
theorem qCE {w : World} {base : Nat} {e : TypeId} {size : Nat} {v : Value} {n : Nat} {xs : List Value} (h : w.ownsRow base e size v n xs) : ∃ a c, v = .slice a n c /\ n <= c /\ c <= 9223372036854775807 := by
 rcases h.2 with ⟨hv, e⟩ | ⟨g, cap, cur, hv, hb, hh, hn, hm, rest⟩
 ·exact ⟨none, 0, by rw [hv, e], by omega, by omega⟩
 ·exact ⟨_, cap, hv, hn, by unfold maxLen at hm; omega⟩
theorem qHE {w : World} {base base' : Nat} {e : TypeId} {size : Nat} {v : Value} {n : Nat} {xs : List Value} (h : w.ownsRow base e size v n xs) (hb : base' <= base) : w.ownsRow base' e size v n xs := by
 refine ⟨h.1, ?_⟩; rcases h.2 with h1 | ⟨g, cap, cur, hv, hb', rest⟩
 ·exact .inl h1
 ·exact .inr ⟨g, cap, cur, hv, Nat.le_trans hb hb', rest⟩
theorem YMt.snoc {w w' : World} {B n g : Nat} {v : Value} {c : Nat} {l : List Yw} {M : List (List Int)} {x : Yw} {r : List Int} (h : YMt w B v l n M) (hr : w.ownsRow B 3 1 (yV n x) n (r.map zv)) (hl : r.length = n)
 (hx : ∀ i (hi : i < l.length) b, (yV n l[i]).ownBlock = some b -> (yV n x).ownBlock ≠ some b) (ho : qAc (fun b => v.ownBlock = some b) w w') (hown : w'.ownsRow B 22 1 (.slice (some ⟨g, 0, none⟩) (l.length + 1) c) (l.length + 1) (l.map (yV n) ++ [yV n x])) : YMt w' B (.slice (some ⟨g, 0, none⟩) (l.length + 1) c) (l ++ [x]) n (M ++ [r]) := by
 have hlen := h.len; have hrow : ∀ (y : Yw) (rr : List Int), w.ownsRow B 3 1 (yV n y) n (rr.map zv) -> w'.ownsRow B 3 1 (yV n y) n (rr.map zv) := fun y rr hy => ho.own hy (fun b hb e => absurd (qHC hy h.own hb e) (by decide)); refine ⟨by rw [List.length_append, List.map_append]; exact hown, by simp [hlen], fun i hi hi' => ?_, fun i j hi hj b hij hb => ?_⟩
 ·simp only [List.length_append, List.length_singleton] at hi
  by_cases e : i < l.length
  ·rw [List.getElem_append_left e, List.getElem_append_left (by omega)]
   obtain ⟨h1, h2⟩ := h.row i e (by omega); exact ⟨hrow _ _ h1, h2⟩
  ·obtain rfl : i = l.length := by omega
   rw [List.getElem_append_right (by omega), List.getElem_append_right (by omega)]; simp only [hlen, Nat.sub_self, List.getElem_singleton]; exact ⟨hrow _ _ hr, hl⟩
 ·simp only [List.length_append, List.length_singleton] at hi hj
  by_cases e : i < l.length <;> by_cases e2 : j < l.length
  ·rw [List.getElem_append_left e] at hb
   rw [List.getElem_append_left e2]; exact h.nodup i j e e2 b hij hb
  ·rw [List.getElem_append_left e] at hb
   rw [List.getElem_append_right (by omega)]; simpa using hx i e b hb
  ·rw [List.getElem_append_right (by omega)] at hb
   rw [List.getElem_append_left e2]; simp only [List.getElem_singleton] at hb; exact fun h9 => hx j e2 b h9 hb
  ·omega
theorem qCD (w0 : World) (v : Value) (m : List (List Int)) (n : Nat) (at_ k : Int) (h : qAA w0 v m) (hm : m.length <= 1000) (hc : ∀ r ∈ m, r.length = n) (hn : n <= 1000) (ha1 : -9223372036854775808 <= at_) (ha2 : at_ <= 9223372036854775807) :
 Calls Try.prog 12 #[v, .int .i64 at_, .int .i64 k] w0 fun e w' => ∃ u, e = .returned u /\ (∃ l, YMt w' w0.heap.size u l n (qC8 m n at_ k)) /\ Below w0.heap.size w0 w' := by
 have H := hZ h; have HC := hZ hc; have HB := hZ (Below.refl w0.heap.size w0); have HD5 : Hid (-9223372036854775808 <= at_.tdiv 5 /\ at_.tdiv 5 <= 9223372036854775807) := hZ (by have h1 : (at_.tdiv 5).natAbs <= at_.natAbs / 5 := (by rw [Int.natAbs_tdiv]; exact Nat.le_refl _); omega); obtain ⟨av, cv, rfl, q1, q2⟩ := h.form; clear h hc
 go_enter Try.func12, Try.ntmps12
 go_wp2_with fail
 have HY : Hid (YMt w0 w0.heap.size (.slice none 0 0) [] n (m.take 0)) := hZ (YMt.nil w0 _ n)
 go_loopw [8, 7] (fun i ov wr => ∃ (j : Nat) (ga : Option Addr) (gc : Nat) (l : List Yw), j <= m.length /\ i = .int .i64 j /\ ov = .slice ga j gc /\ j <= gc /\ gc <= 9223372036854775807 /\ Hid (l.length = j) /\ Hid (YMt wr w0.heap.size (.slice ga j gc) l n (m.take j)) /\ Hid (Below w0.heap.size w0 wr)) (fun i _ _ => m.length - (intOf i).toNat)
 case atStart => exact ⟨0, none, 0, [], by omega, rfl, rfl, by omega, by omega, hZ rfl, HY, HB⟩
 case round =>
  clear HY HB; obtain ⟨j, ga, gc, l, hj, rfl, rfl, hjc, hgc, HL, HY, HB⟩ := hrel; obtain ⟨w1, rfl⟩ := eY wr; by_cases hlt : j < m.length
  ·skip
   have j1 : (0 : Int) <= (j : Int) := by omega
   have j2 : (j : Int) < (m.length : Int) := by omega
   obtain ⟨b0, cap0, a0, c0, hv0, hb0, n0, HR0, g0, g00⟩ := (H.o.blw HB.o).at_ j hlt; injection hv0 with f1 f2 f3; subst f1; clear f2 f3; have Hlj : Hid ((m[j]'hlt).length = n) := hZ (HC.o _ (List.getElem_mem _)); obtain ⟨r, hr⟩ := eX (m[j]'hlt); rw [hr] at n0 HR0 g0 Hlj; have HRj := hZ hr; have HR := hZ HR0; clear hr HR0; rw [Hlj.o] at n0 g0; have HSz := hZ HB.o.size; have HBl1 := hZ (Below.refl w1.heap.size w1); obtain ⟨w2, hw2⟩ := eX (w1.alloc (.cells #[] 3)); have hB : Below w1.heap.size w1 w2 := by rw [<- hw2]; exact (Below.refl _ _).alloc (Nat.le_refl _) _
   have hl2 : w2.ownsRow w1.heap.size 3 1 (.slice (some ⟨w1.heap.size, 0, none⟩) 0 0) 0 [] := by rw [<- hw2]; exact World.ownsRow_lit w1 #[] 0 (Nat.le_refl _) (by decide) rfl
   have n2 := (hB.cell (p := ⟨b0, j, none⟩) hb0).trans n0; have HB1g : Hid (w1.heap.size < w2.heap.size) := hZ (by rw [<- hw2]; simp); have HR2 := hZ (HR.o.blw hB); rw [Hlj.o] at HR2; replace hl2 := hZ hl2; have HS2 := hZ hB.size; have HY1 : Hid ((∀ g, (Value.slice ga j gc).ownBlock = some g -> g < w1.heap.size) /\ ∀ i (hi : i < l.length) g, (yV n l[i]).ownBlock = some g -> g < w1.heap.size) := hZ ⟨fun g hg => (HY.o.own.lt g hg).2, fun i hi g hg => ((HY.o.row i hi (by rw [HY.o.len]; exact hi)).1.lt g hg).2⟩; replace HY := HY.b hB; replace HB := bT HB hB; have hB9 := hZ hB; clear hB
   go_wp2_with (at_builtin; refine qGM (W0 := w2) (B := w1.heap.size) qHd rfl _ _ rfl (.slice (some ⟨w1.heap.size, 0, none⟩) 0 0) (.slice a0 n c0) 0 [] r rfl rfl HR2.o hl2.o (by exact (Below.refl _ _).mono HS2.o) HS2.o (by have := Hlj.o; omega) (by omega) ?_)
   intro v3 w3' ho3 hb3 hon3; have HB1 := HB; obtain ⟨w3, rfl⟩ := eY w3'; have ho3b : Hid (w3.ownsRow w1.heap.size 3 1 v3 n (r.map zv)) := hZ (by have h9 := ho3.o; simpa [Hlj.o] using h9); obtain ⟨a3, c3, rfl, h3, h4⟩ := qCE ho3b.o; replace HY := hZ (HY.o.only hon3.o (fun g hg e => by simp only [Value.ownBlock, Option.some.injEq] at e; have := HY1.o.1 g hg; omega) (fun i hi g hg e => by simp only [Value.ownBlock, Option.some.injEq] at e; have := HY1.o.2 i hi g hg; omega)); replace HB := hZ (HB1.o.trans (hb3.o.mono HSz.o)); clear ho3 hb3 hon3
   go_wp2_with (at_builtin; refine qAX (W0 := w0) qCO rfl _ _ rfl [.slice a3 n c3] 22 (.slice ga j gc) j (l.map (yV n)) rfl rfl rfl (by simp [Value.oneCell']) (by have h9 := HY.o.own; rw [HL.o] at h9; exact h9) HB.o HB.o.size (by omega) (by omega) ?_)
   intro g9 cap9 w9 ho9 hb9 hon9 hc9 hgg; obtain ⟨w4, rfl⟩ := eY w9
   go_wp2_with fail
   go_roundw
   case rel =>
    have hj1 : j + 1 <= cap9 := (by obtain ⟨_, _, e, h5, _⟩ := qCE ho9.o; injection e with _ _ e3; omega); refine ⟨j + 1, some ⟨g9, 0, none⟩, cap9, l ++ [(a3, c3)], by omega, by go_num, rfl, hj1, hc9, hZ (by simp [HL.o]), hZ ?_, hb9⟩; have h9 := YMt.snoc (g := g9) (c := cap9) (x := (a3, c3)) (r := r) HY.o (qHE ho3b.o HSz.o) Hlj.o (fun i hi b hb e => by have h8 := HY1.o.2 i hi b hb; have h7 := ho3b.o.lt b e; omega) hon9.o (by have h8 := ho9.o; rw [HL.o]; exact h8); rw [HL.o] at h9; rw [List.take_succ_eq_append_getElem hlt, HRj.o]; exact h9
   case measure => simp [intOf]; omega
  ·skip
   have hjm : j = m.length := by omega
   have HY2 : Hid (YMt w1 w0.heap.size (.slice ga j gc) l n m) := hZ (by have h9 := HY.o; rw [hjm, List.take_length] at h9; rw [hjm]; exact h9); clear HY; have HY := HY2; clear HY2; have HL2 : Hid (l.length = m.length) := hZ (by rw [HL.o, hjm]); have j9 : ¬ (j : Int) < (m.length : Int) := by omega
   by_cases hp : 0 < m.length /\ 0 < n
   ·skip
    obtain ⟨hm0, hn0⟩ := hp; have p1 : (0 : Int) < (j : Int) := by omega
    have p2 : (0 : Int) < (n : Int) := by omega
    obtain ⟨R, cR, e9, -, -⟩ : ∃ R cR, (Value.slice ga j gc) = .slice (some ⟨R, 0, none⟩) j cR /\ True /\ True := by
     rcases HY.o.own.2 with ⟨e, _⟩ | ⟨g, cap, cur, e, _⟩
     ·injection e with _ e _; omega
     ·exact ⟨g, cap, by rw [e, HL.o], trivial, trivial⟩
    injection e9 with f1 _ f3; subst f1 f3; have HOC : Hid (∀ i (hi : i < l.length), w1.cell? ⟨R, i, none⟩ = some (.slice l[i].1 n l[i].2)) := hZ (fun i hi => HY.o.ocell (R := R) (c := gc) (by rw [HL.o]) i hi); have har := qAW at_ m.length (by omega); have HA1 := hZ (qBn at_ m.length w1 ha1 ha2 (by omega) (by omega)); have har2 := qAW (at_.tdiv 5) n (by omega); have HSp : Hid (qC8 m n at_ k = m.set (qA9 at_ m.length).toNat ((m[(qA9 at_ m.length).toNat]?.getD []).set (qA9 (at_.tdiv 5) n).toNat k)) := hZ (if_pos ⟨hm0, hn0⟩); obtain ⟨z, hz⟩ := eX (qA9 at_ m.length); obtain ⟨i, hi⟩ := Int.eq_ofNat_of_zero_le (show 0 <= z by omega); subst hi; rw [hz] at HA1 har HSp; have hil : i < l.length := by have := HL2.o; omega
    have him : i < m.length := by omega
    obtain ⟨z2, hz2⟩ := eX (qA9 (at_.tdiv 5) n); obtain ⟨q, hq⟩ := Int.eq_ofNat_of_zero_le (show 0 <= z2 by omega); subst hq; rw [hz2] at har2 HSp; have hqn : q < n := by omega
    rw [Int.toNat_natCast, Int.toNat_natCast, List.getElem?_eq_getElem him, Option.getD_some] at HSp; have Hz2 := hZ hz2; clear hz hz2; have c0 := HOC.o 0 (by omega); have ci := HOC.o i hil; obtain ⟨g, hg, hgB, hgl, hgc⟩ := HY.o.some_ hn0 i hil; obtain ⟨ci2, hci2⟩ := eX (l[i].2); have Hgi := hZ hg; rw [hg, hci2] at ci; obtain ⟨a9, ha9⟩ := eX ((l[0]'(by omega)).1); obtain ⟨c9, hc9⟩ := eX ((l[0]'(by omega)).2); rw [ha9, hc9] at c0; have HCI := hZ (And.intro c0 ci); clear hg ha9 hc9 hci2 ci
    go_wp2_with fail
    clear c0; refine HA1.o.mono ?_; rintro e w9 ⟨rfl, hw9⟩; subst hw9; clear HA1; have i1 : (0 : Int) <= (i : Int) := by omega
    have i2 : (i : Int) < (j : Int) := by omega
    have i3 : (i : Int) < (m.length : Int) := by omega
    have q1' : (0 : Int) <= (q : Int) := by omega
    have q2' : (q : Int) < (n : Int) := by omega
    go_wp2_with fail
    have HRl : Hid (R < w1.heap.size) := hZ (HY.o.own.lt R rfl).2; have HD := hZ (Below.refl w1.heap.size w1); obtain ⟨w2, hwd⟩ := eX w1.drew; have hB := dB hwd; replace HY := HY.b hB; replace HB := bT HB hB; replace HD := bT HD hB; clear hB; have HBr : Hid (qAc (fun b => False) w2 w2) := hZ (qAc.refl _ _); refine qAx [13] (fun w' => qAc (fun b => False) w2 w') (by kernel_rfl) (by rw [hwd]; exact qAc.refl _ _) (fun hHeld => ?_); rw [hwd] at hHeld ⊢; clear hwd; have c0 := (HD.o.cell (p := ⟨R, 0, none⟩) HRl.o).trans HCI.o.1; have ci := (HD.o.cell (p := ⟨R, i, none⟩) HRl.o).trans HCI.o.2; have hlR := Nat.lt_of_lt_of_le HRl.o HD.o.size; refine pU 0 39 ?_; refine pU 1 40 ?_; refine pU 2 41 ?_; refine tU 3 42 (cF ci hlR) ?_; refine pU 4 43 ?_; refine pU 5 44 ?_; refine pU 6 45 ?_; refine pU 7 46 ?_; refine tU 8 47 (cF c0 hlR) ?_; refine pU 9 48 ?_; refine pU 11 50 ?_; clear c0 ci hlR; refine eU 10 fun K hK => ?_; go_simp; have hA2 := qBn (at_.tdiv 5) n w2 HD5.o.1 HD5.o.2 (by omega) (by omega); rw [Hz2.o] at hA2
    try rw [show IntKind.i64.wrap (at_.tdiv 5) = at_.tdiv 5 from IntWalk.i64_in _ HD5.o]
    refine hA2.mono ?_; rintro e w9 ⟨rfl, hw9⟩; subst hw9; clear hA2; refine hK.out _ _ HBr.o (fun hHeld => ?_); clear hK K
    try simp only [Act.put, sX1, sX2, sX3]
    refine pU 12 51 ?_; obtain ⟨u9, e1⟩ : ∃ u, w2.cell? ⟨g, q, none⟩ = some u := ⟨_, HY.o.cell i hil Hgi.o q hqn him (by rw [HC.o _ (List.getElem_mem _)]; exact hqn)⟩; have e2 := HY.o.frozen i hil Hgi.o q; have HYn := hZ (HY.o.put (j := q) hil him Hgi.o k); obtain ⟨w3, hw⟩ := eX (w2.setCell ⟨g, q, none⟩ (.int .i64 k)); rw [hw, <- HSp.o] at HYn; have ho : qAc (fun b => b = g) w2 w3 := by rw [<- hw]; exact (qAc.refl (fun b => b = g) _).set (p := ⟨g, q, none⟩) rfl _
    replace HB := hZ (qAj HB.o ho (fun b e => by omega) HB.o.size); clear ho; refine lU 13 fun K hK => ?_; go_simp
    try rw [hw]
    refine hK.out _ _ ?_; clear hK K
    try simp only [Act.put, sX1, sX2, sX3]
    clear hw e1 e2; refine dU ?_; clear hHeld
    go_wp2_with fail
    go_ret; exact ⟨_, rfl, ⟨l, by have h9 := HYn.o; rw [hjm] at h9; exact h9⟩, HB.o⟩
   ·skip
    have HS : Hid (qC8 m n at_ k = m) := hZ (if_neg hp); by_cases hm0 : 0 < m.length
    ·skip
     have hn0 : n = 0 := by omega
     have p1 : (0 : Int) < (j : Int) := by omega
     obtain ⟨R, cR, e9, p2, p3⟩ : ∃ R cR, (Value.slice ga j gc) = .slice (some ⟨R, 0, none⟩) j cR /\ True /\ True := by
      rcases HY.o.own.2 with ⟨e, _⟩ | ⟨g, cap, cur, e, _⟩
      ·injection e with _ e _; omega
      ·exact ⟨g, cap, by rw [e, HL.o], trivial, trivial⟩
     injection e9 with f1 _ f3; subst f1 f3; have c0 := HY.o.ocell (R := R) (c := gc) (by rw [HL.o]) 0 (by have := HL.o; omega); obtain ⟨a9, ha9⟩ := eX (l[0]'(by have := HL.o; omega)); rw [ha9, hn0] at c0; clear ha9 hn0; have HYf := HY; rw [<- HS.o] at HYf
     go_wp2_with fail
     go_ret; exact ⟨_, rfl, ⟨l, by have h9 := HYf.o; rw [hjm] at h9; exact h9⟩, HB.o⟩
    ·skip
     have p1 : ¬ (0 : Int) < (j : Int) := by omega
     have HYf := HY; rw [<- HS.o] at HYf
     go_wp2_with fail
     go_ret; exact ⟨_, rfl, ⟨l, by have h9 := HYf.o; rw [hjm] at h9; exact h9⟩, HB.o⟩
open Go.RowKit
def qDJ (w : World) (us : List Value) (m : List (List Int)) : Prop := us.length = m.length /\ ∀ j (h : j < us.length) (h' : j < m.length), qAo w us[j] m[j]
theorem qDJ.blw {w w' : World} {us : List Value} {m : List (List Int)} (h : qDJ w us m) (hb : Below w.heap.size w w') : qDJ w' us m := ⟨h.1, fun j h1 h2 => (h.2 j h1 h2).below hb⟩
instance {w w' : World} {us : List Value} {m : List (List Int)} : Mv w w' (qDJ w us m) (qDJ w' us m) := ⟨fun hb h => qDJ.blw h hb⟩
theorem qDJ.snoc {w : World} {us : List Value} {m : List (List Int)} {u : Value} {r : List Int} (h : qDJ w us m) (hu : qAo w u r) : qDJ w (us ++ [u]) (m ++ [r]) := by
 have hl := h.1; refine ⟨by simp [hl], fun j h1 h2 => ?_⟩; simp only [List.length_append, List.length_singleton] at h1 h2; by_cases e : j < us.length
 ·rw [List.getElem_append_left e, List.getElem_append_left (by omega)]
  exact h.2 j e (by omega)
 ·rw [List.getElem_append_right (by omega), List.getElem_append_right (by omega)]
  simpa using hu
theorem qDJ.mat {w : World} {base : Nat} {v : Value} {n : Nat} {us : List Value} {m : List (List Int)} (h : qDJ w us m) (ho : w.ownsRow base 22 1 v n us) (hn : n = us.length) : qAA w v m := by
 subst hn; refine qAh.of_own (css := us.map (fun u => [u])) (base := base) (e := 22) (by rw [qBA, List.length_map]; simpa using ho) (fun cs h => by obtain ⟨x, _, rfl⟩ := List.mem_map.1 h; rfl) (by rw [List.length_map]; exact h.1) (fun j h1 h2 => ?_); have h3 : j < us.length := by rw [h.1]; exact h1
 rw [List.getElem_map]; exact ⟨_, rfl, h.2 j h3 h1⟩
theorem qAA.rowsV {w : World} {v : Value} {m : List (List Int)} (h : qAA w v m) : ∃ us, qDJ w us m /\ (∀ u ∈ us, u.oneCell' = true) /\ (0 < m.length -> ∃ b c, v = .slice (some ⟨b, 0, none⟩) m.length c /\ ∀ j u, us[j]? = some u -> w.cell? ⟨b, j, none⟩ = some u) := by
 rcases Nat.eq_zero_or_pos m.length with h0 | h0
 ·obtain rfl := List.eq_nil_of_length_eq_zero h0
  exact ⟨[], ⟨rfl, fun j h1 => by simp at h1⟩, fun u hu => by simp at hu, fun h9 => by simp at h9⟩
 ·obtain ⟨b, cap, _, _, hv, _⟩ := h.at_ 0 h0
  have hc : ∀ j (hj : j < m.length), ∃ a c, w.cell? ⟨b, j, none⟩ = some (.slice a m[j].length c) /\ qAo w (.slice a m[j].length c) m[j] := fun j hj => by
   obtain ⟨b', cap', a, c, hv', _, h1, h2, _⟩ := h.at_ j hj; rw [hv] at hv'; injection hv' with e1 _ _; injection e1 with e1; injection e1 with e1 _ _; subst e1; exact ⟨a, c, h1, h2⟩
  have hg : ∀ j (hj : j < m.length), ((List.range m.length).map (fun j => (w.cell? ⟨b, j, none⟩).getD undef))[j]? = w.cell? ⟨b, j, none⟩ := fun j hj => by
   obtain ⟨a, c, h1, _⟩ := hc j hj; simp [hj, h1]
  refine ⟨(List.range m.length).map (fun j => (w.cell? ⟨b, j, none⟩).getD undef), ⟨by simp, fun j h1 h2 => ?_⟩, fun u hu => ?_, fun _ => ⟨b, cap, hv, fun j u hu => ?_⟩⟩
  ·obtain ⟨a, c, e1, e2⟩ := hc j h2
   simp only [List.getElem_map, List.getElem_range, e1, Option.getD_some]; exact e2
  ·obtain ⟨j, hj, rfl⟩ := List.mem_map.1 hu
   obtain ⟨a, c, e1, e2⟩ := hc j (List.mem_range.1 hj); rw [e1]; rfl
  ·have hj : j < m.length := by
    rcases Nat.lt_or_ge j m.length with h3 | h3
    ·exact h3
    ·rw [List.getElem?_eq_none (by simpa using h3)] at hu; cases hu
   rw [<- hg j hj, hu]
theorem qCo {W0 w : World} {ops : Array Oper} {rest : List Oper} {o : Oper} {a : Act} {Q : Exit -> Act -> World -> Prop} (hgd : o.guard = none) (s x : Operand)
 (ho : o.op = .call { callee := .builtin .append, args := #[s, x], argTypes := #[23, 23] })
 (v u : Value) (n : Nat) (xs : List Value) (m : List (List Int)) (hs : a.eval s = v) (hx : a.eval x = u) (hm : qAA W0 u m)
 (hown : w.ownsRow W0.heap.size 22 1 v n xs) (hB : Below W0.heap.size W0 w) (hn : n + m.length <= 1000000000)
 (h : ∀ v' w' us, Hid (qDJ W0 us m) -> Hid (w'.ownsRow W0.heap.size 22 1 v' (n + m.length) (xs ++ us)) -> Hid (Below W0.heap.size W0 w') -> wpList Try.prog ops Q rest (a.put o.dst v') w') : wpList Try.prog ops Q (o :: rest) a w := by
 obtain ⟨us, h1, h2, h3⟩ := hm.rowsV; rcases Nat.eq_zero_or_pos m.length with h0 | h0
 ·obtain ⟨ad, cap, rfl, -, -⟩ := hm.form
  obtain rfl : us = [] := List.eq_nil_of_length_eq_zero (by rw [h1.1, h0]); rw [h0] at hx; cases ad with
  | none =>
   obtain ⟨ht, i, z, hi, hz, hsize, hbyt, hzs, hk⟩ := qCO; refine wpList_plain hgd fun K hK => ?_; have hrun := qEe (P := Try.prog) (w := w) (base := W0.heap.size) (t := 23) (ty := o.type) ht hi hown cap; unfold Oper.wp; simp [execOp, ho, resolve, invoke, builtin, hs, hx, hrun, Result.andThen]; exact hK _ _ (h v w [] (hZ h1) (hZ (by rw [h0]; simpa using hown)) (hZ hB))
  | some ad =>
   exact qCn (W0 := W0) (B := W0.heap.size) qCO hgd s x ho v n xs hs ad 0 cap [] (by rw [hx]) rfl (fun j u hu => by simp at hu) (by simp) hown hB hB.size (by omega) (by omega) (fun v' w' k1 k2 _ => h v' w' [] (hZ h1) (hZ (by rw [h0]; exact k1.o)) k2)
 ·obtain ⟨b, c, rfl, h4⟩ := h3 h0
  have hlt : b < W0.heap.size := by
   obtain ⟨b', _, _, _, hv', h5, _⟩ := hm.at_ 0 h0; injection hv' with e1 _ _; injection e1 with e1; injection e1 with e1 _ _; omega
  refine qCn (W0 := W0) (B := W0.heap.size) qCO hgd s x ho v n xs hs ⟨b, 0, none⟩ m.length c us hx (by rw [h1.1, Nat.mul_one]) (fun j u hu => ?_) h2 hown hB hB.size hn (by omega) (fun v' w' k1 k2 _ => h v' w' us (hZ h1) k1 k2); have hadd : (⟨b, 0, none⟩ : Addr).add j = ⟨b, j, none⟩ := by unfold Addr.add; split <;> simp_all
  rw [hadd]; exact (hB.cell (p := ⟨b, j, none⟩) hlt).trans (h4 j u hu)
theorem qD2 (w : World) : (w.alloc (.cells #[] 22)).ownsRow w.heap.size 22 1 (.slice (some ⟨w.heap.size, 0, none⟩) 0 0) 0 [] := World.ownsRow_lit w #[] 0 (Nat.le_refl _) (by decide) rfl
theorem qFg {w w' : World} {base : Nat} {e : TypeId} {size : Nat} {v : Value} {n : Nat} {xs : List Value} (h : w.ownsRow base e size v n xs) (hb : Below w.heap.size w w') : w'.ownsRow base e size v n xs := (qAc.of_below (S := fun _ => False) hb).own h (fun _ _ h => h)
theorem qDj {w w' : World} {S : Nat -> Prop} {a : Option Addr} {n c : Nat} {r : List Int} (h : qAo w (.slice a n c) r) (ho : qAc S w w') (hS : ∀ b, a = some ⟨b, 0, none⟩ -> ¬ S b) : qAo w' (.slice a n c) r := by
 obtain ⟨a', c', hv, h1, h2, h3⟩ := h; injection hv with e1 e2 e3; subst e1 e2 e3; refine ⟨_, c, rfl, h1, h2, fun h0 => ?_⟩; obtain ⟨b, rfl, hlt, hcc⟩ := h3 h0; refine ⟨b, rfl, Nat.lt_of_lt_of_le hlt ho.size, fun j hj => ?_⟩; obtain ⟨cs, k1, k2, k3⟩ := hcc j hj; exact ⟨cs, k1, k2, fun i hi => (ho.cell (p := ⟨b, j * 1 + i, none⟩) (hS b rfl) hlt).trans (k3 i hi)⟩
def qDq (w : World) (b : Nat) : Prop := b < w.heap.size /\ ∀ j, j < 3 -> ∃ a c M, w.cell? ⟨b, j, none⟩ = some (.slice a M.length c) /\ qAA w (.slice a M.length c) M /\ M.length <= 6
theorem qDq.blw {w w' : World} {b : Nat} (h : qDq w b) (hb : Below w.heap.size w w') : qDq w' b :=
 ⟨Nat.lt_of_lt_of_le h.1 hb.size, fun j hj => by obtain ⟨a, c, M, h1, h2, h3⟩ := h.2 j hj; exact ⟨a, c, M, (hb.cell (p := ⟨b, j, none⟩) h.1).trans h1, h2.below hb, h3⟩⟩
instance {w w' : World} {b : Nat} : Mv w w' (qDq w b) (qDq w' b) := ⟨fun hb h => qDq.blw h hb⟩
theorem qDq.mk {w : World} {x y z : Value} {A B C : List (List Int)} (h1 : qAA w x A) (h2 : qAA w y B) (h3 : qAA w z C) (l1 : A.length <= 6) (l2 : B.length <= 6) (l3 : C.length <= 6) : qDq (w.alloc (.cells #[x, y, z] 23)) w.heap.size := by
 have hb : Below w.heap.size w (w.alloc (.cells #[x, y, z] 23)) := (Below.refl _ _).alloc (Nat.le_refl _) _; obtain ⟨a1, c1, rfl, -, -⟩ := h1.form; obtain ⟨a2, c2, rfl, -, -⟩ := h2.form; obtain ⟨a3, c3, rfl, -, -⟩ := h3.form; refine ⟨by simp, fun j hj => ?_⟩; rcases (show j = 0 \/ j = 1 \/ j = 2 by omega) with rfl | rfl | rfl
 ·exact ⟨a1, c1, A, by rw [cell_of_row _ w.heap.size 0 _ 23 (0, 0) (heap_alloc_new w _)]; rfl, h1.below hb, l1⟩
 ·exact ⟨a2, c2, B, by rw [cell_of_row _ w.heap.size 1 _ 23 (0, 0) (heap_alloc_new w _)]; rfl, h2.below hb, l2⟩
 ·exact ⟨a3, c3, C, by rw [cell_of_row _ w.heap.size 2 _ 23 (0, 0) (heap_alloc_new w _)]; rfl, h3.below hb, l3⟩
def qE2 (G : List (List Int) -> Prop) (z : Int) (H : List (List Int)) : Prop := ∃ H', G H' /\ (((∃ r ∈ H', ∃ x ∈ r, ¬ qEH x) /\ z = 4 /\ H = []) \/ ((∀ r ∈ H', ∀ x ∈ r, qEH x) /\ z = 0 /\ H = H'))
theorem qE2.uniq {G : List (List Int) -> Prop} (hG : ∀ A B, G A -> G B -> A = B) {z z' : Int} {H H' : List (List Int)} (h : qE2 G z H) (h' : qE2 G z' H') : z = z' /\ H = H' := by
 obtain ⟨A, h1, h2⟩ := h; obtain ⟨B, k1, k2⟩ := h'; obtain rfl := hG A B h1 k1; rcases h2 with ⟨⟨r, hr, x, hx, h9⟩, rfl, rfl⟩ | ⟨h2, rfl, rfl⟩ <;> rcases k2 with ⟨⟨r', hr', x', hx', h9'⟩, rfl, rfl⟩ | ⟨k2, rfl, rfl⟩
 ·exact ⟨rfl, rfl⟩
 ·exact absurd (k2 r hr x hx) h9
 ·exact absurd (h2 r' hr' x' hx') h9'
 ·exact ⟨rfl, rfl⟩
theorem qA5.val {G : List (List Int) -> Prop} {H' : List (List Int)} {e : Ending} {w' : World} (h : qA5 H' e w') (hG : G H') : ∃ u z H, e = .returned (.tuple #[u, .int .i64 z]) /\ qAA w' u H /\ qE2 G z H := by
 rcases h with ⟨rfl, h1⟩ | ⟨u, rfl, h1, h2⟩
 ·exact ⟨_, _, [], rfl, qAh.nil _ 0 (by omega), H', hG, .inl ⟨h1, rfl, rfl⟩⟩
 ·exact ⟨u, _, H', rfl, h1, H', hG, .inr ⟨h2, rfl, rfl⟩⟩
def qMi (m H : List (List Int)) : Prop := qAw (m.map vec) 0 (H.map vec) /\ ∀ r ∈ H, r.length = qBx m
def qMD (m H : List (List Int)) : Prop := qBu m (H.map vec) /\ ∀ r ∈ H, r.length = m.length
def qFI (m : List (List Int)) (z : Int) (H : List (List Int)) : Prop := (qAt m ≠ 0 /\ z = qAt m /\ H = []) \/ (qAt m = 0 /\ qE2 (qMi m) z H)
def qH6 (m : List (List Int)) (z : Int) (H : List (List Int)) : Prop := (qAt m ≠ 0 /\ z = qAt m /\ H = []) \/ (qAt m = 0 /\ qE2 (qMD m) z H)
theorem qFI.uniq {m : List (List Int)} {z z' : Int} {H H' : List (List Int)} (h : qFI m z H) (h' : qFI m z' H') : z = z' /\ H = H' := by
 rcases h with ⟨h1, rfl, rfl⟩ | ⟨h1, h2⟩ <;> rcases h' with ⟨k1, rfl, rfl⟩ | ⟨k1, k2⟩
 ·exact ⟨rfl, rfl⟩
 ·exact absurd k1 h1
 ·exact absurd h1 k1
 ·exact h2.uniq (fun A B a b => qBX a.2 b.2 (a.1.uniq b.1)) k2
theorem qH6.uniq {m : List (List Int)} {z z' : Int} {H H' : List (List Int)} (h : qH6 m z H) (h' : qH6 m z' H') : z = z' /\ H = H' := by
 rcases h with ⟨h1, rfl, rfl⟩ | ⟨h1, h2⟩ <;> rcases h' with ⟨k1, rfl, rfl⟩ | ⟨k1, k2⟩
 ·exact ⟨rfl, rfl⟩
 ·exact absurd k1 h1
 ·exact absurd h1 k1
 ·exact h2.uniq (fun A B a b => qBX a.2 b.2 (a.1.uniq b.1)) k2
theorem qD5.val {w0 w' : World} {m : List (List Int)} {e : Ending} (h : qD5 w0 m e w') : Below w0.heap.size w0 w' /\ ∃ u z H, e = .returned (.tuple #[u, .int .i64 z]) /\ qAA w' u H /\ qFI m z H := by
 obtain ⟨hB, ⟨h1, rfl⟩ | ⟨h1, H, k1, k2, -, k3⟩⟩ := h
 ·exact ⟨hB, _, _, [], rfl, qAh.nil _ 0 (by omega), .inl ⟨h1, rfl, rfl⟩⟩
 ·obtain ⟨u, z, H', e1, e2, e3⟩ := k3.val (G := qMi m) ⟨k1, k2⟩
  exact ⟨hB, u, z, H', e1, e2, .inr ⟨h1, e3⟩⟩
theorem qFG.val {w0 w' : World} {m : List (List Int)} {e : Ending} (h : qFG w0 m e w') : Below w0.heap.size w0 w' /\ ∃ u z H, e = .returned (.tuple #[u, .int .i64 z]) /\ qAA w' u H /\ qH6 m z H := by
 obtain ⟨hB, ⟨h1, rfl⟩ | ⟨h1, H, k1, k2, -, k3⟩⟩ := h
 ·exact ⟨hB, _, _, [], rfl, qAh.nil _ 0 (by omega), .inl ⟨h1, rfl, rfl⟩⟩
 ·obtain ⟨u, z, H', e1, e2, e3⟩ := k3.val (G := qMD m) ⟨k1, k2⟩
  exact ⟨hB, u, z, H', e1, e2, .inr ⟨h1, e3⟩⟩
end Go.Proofs.Ytlmbebbdamgfpaa
