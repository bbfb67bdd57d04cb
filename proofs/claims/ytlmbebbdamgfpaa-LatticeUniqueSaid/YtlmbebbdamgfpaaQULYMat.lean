/- Matrices of ints of one's own. -/
import Derived.Test.YtlmbebbdamgfpaaQULMatr
import Derived.Test.YtlmbebbdamgfpaaQUGAppI
import Derived.Test.YtlmbebbdamgfpaaQULEchP
set_option linter.unusedVariables false
set_option linter.unusedSimpArgs false
set_option linter.unusedVariables false
set_option linter.unusedSimpArgs false
namespace Go.Proofs.Ytlmbebbdamgfpaa
open Go.RowKit

theorem IntsOf.of_own {w : World} {base : Nat} {a : Option Addr} {c : Nat} {r : List Int} (h : w.ownsRow base 3 1 (.slice a r.length c) r.length (r.map zv)) : IntsOf w (.slice a r.length c) r := by
 rcases id h.2 with ⟨hv, h0⟩ | ⟨g, cap, cur, hv, _, hg, h1, h2, _⟩
 ·injection hv with e1 e2 e3
  subst e1 e3
  exact ⟨none, 0, rfl, by omega, by omega, fun h9 => by omega⟩
 ·injection hv with e1 e2 e3
  subst e1 e3
  unfold maxLen at h2
  refine ⟨_, c, rfl, h1, by omega, fun _ => ⟨g, rfl, (Array.getElem?_eq_some_iff.1 hg).1, fun j hj => ⟨_, rfl, rfl, fun i hi => ?_⟩⟩⟩
  obtain rfl : i = 0 := by omega
  rw [Nat.mul_one, Nat.add_zero, h.cellAt j (by omega)]
  simp [hj, zv]
/-- a row's address and capacity -/
abbrev Yw := Option Addr × Nat
def yV (n : Nat) (x : Yw) : Value := .slice x.1 n x.2
structure YMt (w : World) (B : Nat) (v : Value) (l : List Yw) (n : Nat) (M : List (List Int)) : Prop where
 own : w.ownsRow B 22 1 v l.length (l.map (yV n))
 len : M.length = l.length
 row : ∀ i (h : i < l.length) (h' : i < M.length), w.ownsRow B 3 1 (yV n l[i]) n (M[i].map zv) ∧ M[i].length = n
 nodup : ∀ i j (h : i < l.length) (h' : j < l.length) g, i ≠ j → (yV n l[i]).ownBlock = some g → (yV n l[j]).ownBlock ≠ some g
section
variable {w w' : World} {B n : Nat} {v : Value} {l : List Yw} {M : List (List Int)}
theorem YMt.only {S : Nat → Prop} (h : YMt w B v l n M) (ho : Only S w w') (hv : ∀ g, v.ownBlock = some g → ¬ S g) (hr : ∀ i (hi : i < l.length) g, (yV n l[i]).ownBlock = some g → ¬ S g) : YMt w' B v l n M :=
 ⟨ho.own h.own hv, h.len, fun i hi hi' => ⟨ho.own (h.row i hi hi').1 (hr i hi), (h.row i hi hi').2⟩, h.nodup⟩
theorem YMt.blw (h : YMt w B v l n M) (hb : Below w.heap.size w w') : YMt w' B v l n M := h.only (S := fun _ => False) (Only.of_below hb) (fun _ _ h => h) (fun _ _ _ _ h => h)
theorem YMt.mat (h : YMt w B v l n M) : MatAt w v M := by
 refine SliceOf.of_own (css := l.map (fun x => [yV n x])) (base := B) (e := 22) (by rw [flatten_one, List.length_map]; exact h.own) (fun cs h => by obtain ⟨x, _, rfl⟩ := List.mem_map.1 h; rfl) (by rw [List.length_map]; exact h.len.symm) (fun j h1 h2 => ?_)
 have h3 : j < l.length := by rw [← h.len]; exact h1
 obtain ⟨k1, k2⟩ := h.row j h3 h1
 rw [List.getElem_map]
 refine ⟨_, rfl, ?_⟩
 have := IntsOf.of_own (r := M[j]) (a := l[j].1) (c := l[j].2) (by rw [k2]; exact k1)
 rwa [k2] at this
theorem own_type {w : World} {B B' n n' k k' g : Nat} {t t' : TypeId} {v v' : Value} {xs xs' : List Value} (h : w.ownsRow B t k v n xs) (h' : w.ownsRow B' t' k' v' n' xs') (hv : v.ownBlock = some g) (hv' : v'.ownBlock = some g) : t = t' := by
 rcases h.2 with ⟨e, _⟩ | ⟨g1, cap, cur, e, _, hg, _⟩
 ·rw [e] at hv; cases hv
 ·rcases h'.2 with ⟨e', _⟩ | ⟨g2, cap', cur', e', _, hg', _⟩
  ·rw [e'] at hv'; cases hv'
  ·rw [e] at hv
   rw [e'] at hv'
   simp only [Value.ownBlock, Option.some.injEq] at hv hv'
   subst hv hv'
   rw [hg] at hg'
   injection hg' with hg'
   injection hg' with _ h2 _
theorem YMt.apart (h : YMt w B v l n M) (i : Nat) (hi : i < l.length) (g : Nat) (h1 : (yV n l[i]).ownBlock = some g) : v.ownBlock ≠ some g := fun h2 => by
 have := own_type (h.row i hi (by rw [h.len]; exact hi)).1 h.own h1 h2
 exact absurd this (by decide)
/-- a row that is not empty -/
theorem YMt.some_ (h : YMt w B v l n M) (hn : 0 < n) (i : Nat) (hi : i < l.length) : ∃ g, l[i].1 = some ⟨g, 0, none⟩ ∧ B ≤ g ∧ g < w.heap.size ∧ n ≤ l[i].2 := by
 rcases (h.row i hi (by rw [h.len]; exact hi)).1.2 with ⟨e, _⟩ | ⟨g, cap, cur, e, hb, hg, hnc, _⟩
 ·injection e with _ e _; omega
 ·injection e with e1 e2 e3
  exact ⟨g, e1, hb, (Array.getElem?_eq_some_iff.1 hg).1, by rw [e3]; exact hnc⟩
theorem YMt.ocell (h : YMt w B v l n M) {R c : Nat} (hv : v = .slice (some ⟨R, 0, none⟩) l.length c) (i : Nat) (hi : i < l.length) : w.cell? ⟨R, i, none⟩ = some (.slice l[i].1 n l[i].2) := by
 have h1 := h.own
 rw [hv] at h1
 rw [h1.cellAt i (by omega), List.getElem?_map, List.getElem?_eq_getElem hi]
 rfl
theorem YMt.cell (h : YMt w B v l n M) {g : Nat} (i : Nat) (hi : i < l.length) (hg : l[i].1 = some ⟨g, 0, none⟩) (j : Nat) (hj : j < n) (hi' : i < M.length) (hj' : j < M[i].length) : w.cell? ⟨g, j, none⟩ = some (.int .i64 M[i][j]) := by
 have h1 := (h.row i hi hi').1
 rw [yV, hg] at h1
 rw [h1.cellAt j (by omega)]
 simp [hj', zv]
theorem YMt.frozen (h : YMt w B v l n M) {g : Nat} (i : Nat) (hi : i < l.length) (hg : l[i].1 = some ⟨g, 0, none⟩) (j : Nat) : w.frozen? ⟨g, j, none⟩ = false := by
 have h1 := (h.row i hi (by rw [h.len]; exact hi)).1
 rw [yV, hg] at h1
 exact h1.frozenAt j
theorem YMt.ofrozen (h : YMt w B v l n M) {R c : Nat} (hv : v = .slice (some ⟨R, 0, none⟩) l.length c) (j : Nat) : w.frozen? ⟨R, j, none⟩ = false := by
 have h1 := h.own
 rw [hv] at h1
 exact h1.frozenAt j
/-- an entry is stored -/
theorem YMt.put (h : YMt w B v l n M) {g i j : Nat} (hi : i < l.length) (hi' : i < M.length) (hg : l[i].1 = some ⟨g, 0, none⟩) (z : Int) : YMt (w.setCell ⟨g, j, none⟩ (.int .i64 z)) B v l n (M.set i (M[i].set j z)) := by
 have ho : Only (fun b => b = g) w (w.setCell ⟨g, j, none⟩ (.int .i64 z)) := (Only.refl (fun b => b = g) w).set (p := ⟨g, j, none⟩) rfl _
 have hgi : (yV n l[i]).ownBlock = some g := by rw [yV, hg]; rfl
 refine ⟨ho.own h.own (fun b hb e => h.apart i hi g hgi (by rw [hb, e])), by rw [List.length_set]; exact h.len, fun k hk hk' => ?_, h.nodup⟩
 have hk2 : k < M.length := by simpa using hk'
 by_cases e : k = i
 ·subst e
  obtain ⟨h1, h2⟩ := h.row k hk hk2
  rw [List.getElem_set_self]
  refine ⟨?_, by rw [List.length_set]; exact h2⟩
  rw [yV, hg] at h1 ⊢
  have := (h1.stored j (.int .i64 z)).1
  rwa [show (Value.int .i64 z) = zv z from rfl, ← List.map_set] at this
 ·rw [List.getElem_set_ne (Ne.symm e)]
  exact ⟨ho.own (h.row k hk hk2).1 (fun b hb e2 => h.nodup k i hk hi b e hb (by rw [hgi, e2])), (h.row k hk hk2).2⟩
/-- two rows change places -/
theorem YMt.swap {R c : Nat} (h : YMt w B (.slice (some ⟨R, 0, none⟩) l.length c) l n M) {a b : Nat} (ha : a < l.length) (hb : b < l.length) (ha' : a < M.length) (hb' : b < M.length) :
 YMt ((w.setCell ⟨R, a, none⟩ (.slice l[b].1 n l[b].2)).setCell ⟨R, b, none⟩ (.slice l[a].1 n l[a].2)) B (.slice (some ⟨R, 0, none⟩) l.length c) (swapL l a b ha hb) n (swapL M a b ha' hb') := by
 have ho : Only (fun g => g = R) w ((w.setCell ⟨R, a, none⟩ (.slice l[b].1 n l[b].2)).setCell ⟨R, b, none⟩ (.slice l[a].1 n l[a].2)) := ((Only.refl (fun g => g = R) w).set (p := ⟨R, a, none⟩) rfl _).set (p := ⟨R, b, none⟩) rfl _
 have inj : ∀ i (hi : i < l.length), (swapL l a b ha hb)[i]'(by rw [swapL_len]; exact hi) = l[sw a b i]'(sw_lt ha hb hi) := fun i hi => by
  rw [swapL_at i hi]
  unfold sw
  split
  ·rfl
  ·split <;> rfl
 have injM : ∀ i (hi : i < M.length), (swapL M a b ha' hb')[i]'(by rw [swapL_len]; exact hi) = M[sw a b i]'(sw_lt ha' hb' hi) := fun i hi => by
  rw [swapL_at i hi]
  unfold sw
  split
  ·rfl
  ·split <;> rfl
 refine ⟨?_, by rw [swapL_len, swapL_len, h.len], fun i hi hi' => ?_, fun i j hi hj g hij => ?_⟩
 ·have h1 := ((h.own.stored a (.slice l[b].1 n l[b].2)).1.stored b (.slice l[a].1 n l[a].2)).1
  rw [swapL_len]
  have e : (swapL l a b ha hb).map (yV n) = ((l.map (yV n)).set a (.slice l[b].1 n l[b].2)).set b (.slice l[a].1 n l[a].2) := by unfold swapL; rw [List.map_set, List.map_set]; rfl
  rw [e]
  exact h1
 ·rw [swapL_len] at hi hi'
  simp only [inj i hi, injM i hi']
  obtain ⟨h1, h2⟩ := h.row _ (sw_lt ha hb hi) (sw_lt ha' hb' hi')
  exact ⟨ho.own h1 (fun g hg e => h.apart _ (sw_lt ha hb hi) g hg (by rw [e]; rfl)), h2⟩
 ·rw [swapL_len] at hi hj
  simp only [inj i hi, inj j hj]
  exact h.nodup _ _ _ _ g (fun e => hij (sw_inj e))
end
/-- a matrix with one entry replaced -/
def spoilL (m : List (List Int)) (n : Nat) (a k : Int) : List (List Int) :=
 if 0 < m.length ∧ 0 < n then m.set (around a m.length).toNat ((m[(around a m.length).toNat]?.getD []).set (around (a.tdiv 5) n).toNat k) else m
theorem spoilL_len {m : List (List Int)} {n : Nat} {a k : Int} : (spoilL m n a k).length = m.length := by unfold spoilL; split <;> simp
end Go.Proofs.Ytlmbebbdamgfpaa
