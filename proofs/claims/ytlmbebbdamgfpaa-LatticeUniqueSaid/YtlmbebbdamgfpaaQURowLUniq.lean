/- The law LatticeUnique returns true for every input, and its arguments read afterwards as before: the row's statement. -/
import Derived.Test.YtlmbebbdamgfpaaQULawLNormal
import Derived.Test.YtlmbebbdamgfpaaQULSpo
import Derived.Deep.Cut
import Derived.Test.YtlmbebbdamgfpaaRows
import Derived.WalkKit
import Derived.ProofKit
import Derived.OpenShut
import Derived.ChangeOld
import Derived.Below
set_option linter.unusedVariables false
set_option linter.unusedSimpArgs false
set_option linter.unusedVariables false
set_option linter.unusedSimpArgs false
namespace Go.Proofs.Ytlmbebbdamgfpaa
open Go.RowKit

theorem bound_eq (x m : Int) (w : World) (h1 : -9223372036854775808 ≤ x) (h2 : x ≤ 9223372036854775807) (hm : 0 ≤ m) (hm2 : m ≤ 2305843009213693952) :
 Calls Try.prog 24 #[.int .i64 x, .int .i64 m] w fun e w' => e = .returned (.int .i64 (around x (2 * m + 1) - m)) ∧ w' = w := by
 have HA := hZ (around_any x (2 * m + 1) w h1 h2 (by omega) (by omega))
 have HR := around_range x (2 * m + 1) (by omega)
 obtain ⟨a, ha⟩ : ∃ a, around x (2 * m + 1) = a := ⟨_, rfl⟩
 rw [ha] at HA HR ⊢
 clear ha
 go_enter Try.func24, Try.ntmps24
 go_wp2_with fail
 refine HA.o.mono ?_
 rintro e w9 ⟨rfl, rfl⟩
 have hw9 : IntKind.i64.wrap (a - m) = a - m := IntWalk.i64_in _ (by omega)
 go_wp2_with fail
 go_ret
 exact ⟨rfl, rfl⟩
theorem around_zero (m : Int) : around 0 m = 0 := by
 unfold around
 rw [if_neg (by omega), Int.zero_emod]
/-- the first c entries are turned -/
def mixC (u v : List Int) (c : Nat) : List Int := u.take c ++ v.drop c
theorem mixC_zero (u v : List Int) : mixC u v 0 = v := by simp [mixC]
theorem mixC_all {u v : List Int} {n : Nat} (hu : u.length = n) (hv : v.length = n) : mixC u v n = u := by
 unfold mixC
 rw [List.take_of_length_le (by omega), List.drop_eq_nil_of_le (by omega), List.append_nil]
theorem mixC_len {u v : List Int} {c : Nat} (h : u.length = v.length) (hc : c ≤ v.length) : (mixC u v c).length = v.length := td_len h hc
theorem mixC_at {u v : List Int} {c : Nat} (h : u.length = v.length) (hc : c < v.length) : (mixC u v c)[c]'(by rw [mixC_len h (by omega)]; exact hc) = v[c] := td_at h hc
theorem mixC_set {u v : List Int} {c : Nat} (h : u.length = v.length) (hc : c < v.length) {z : Int} (hz : z = u[c]'(by omega)) : (mixC u v c).set c z = mixC u v (c + 1) := by rw [hz]; exact td_set h hc
def addR (u v : List Int) (b : Int) : List Int := (List.range u.length).map (fun j => vec u j + b * vec v j)
theorem addR_len {u v : List Int} {b : Int} : (addR u v b).length = u.length := by simp [addR]
theorem addR_at {u v : List Int} {b : Int} (j : Nat) (h : j < u.length) : (addR u v b)[j]'(by rw [addR_len]; exact h) = vec u j + b * vec v j := by simp [addR]
theorem vec_addR {u v : List Int} {b : Int} (h : v.length = u.length) (j : Nat) : vec (addR u v b) j = vec u j + b * vec v j := by
 rcases Nat.lt_or_ge j u.length with h1 | h1
 ·rw [vec_at (by rw [addR_len]; exact h1), addR_at j h1]
 ·rw [vec_out (by rw [addR_len]; exact h1), vec_out h1, vec_out (by omega)]; simp
theorem addR_le {u v : List Int} {b : Int} (hu : ∀ x ∈ u, x.natAbs ≤ 60) (hv : ∀ x ∈ v, x.natAbs ≤ 60) (hb : -3 ≤ b ∧ b ≤ 3) : ∀ x ∈ addR u v b, x.natAbs ≤ 240 := by
 intro x hx
 obtain ⟨j, hj, rfl⟩ := List.mem_iff_getElem.1 hx
 rw [addR_len] at hj
 rw [addR_at j hj]
 have h1 : (vec u j).natAbs ≤ 60 := by rw [vec_at hj]; exact hu _ (List.getElem_mem _)
 have h2 : (vec v j).natAbs ≤ 60 := by
  rcases Nat.lt_or_ge j v.length with h | h
  ·rw [vec_at h]; exact hv _ (List.getElem_mem _)
  ·rw [vec_out h]; simp
 rcases (show b = -3 ∨ b = -2 ∨ b = -1 ∨ b = 0 ∨ b = 1 ∨ b = 2 ∨ b = 3 by omega) with e | e | e | e | e | e | e <;> rw [e] <;> omega
theorem span_iff {A B : List Vec} (h1 : ∀ r ∈ A, InSpan B r) (h2 : ∀ r ∈ B, InSpan A r) (v : Vec) : InSpan A v ↔ InSpan B v := ⟨fun h => h.trans h1, fun h => h.trans h2⟩
theorem mem_mapv {M : List (List Int)} {i : Nat} (h : i < M.length) : InSpan (M.map vec) (vec M[i]) := InSpan.mem (List.mem_map.2 ⟨_, List.getElem_mem h, rfl⟩)
/-- a multiple of another row is added -/
theorem span_add {M : List (List Int)} {n i k : Nat} {b : Int} (hr : ∀ r ∈ M, r.length = n) (hi : i < M.length) (hk : k < M.length) (hik : i ≠ k) (v : Vec) : InSpan ((M.set i (addR M[i] M[k] b)).map vec) v ↔ InSpan (M.map vec) v := by
 have hl : (M.set i (addR M[i] M[k] b)).length = M.length := List.length_set
 have hv : ∀ j, vec (addR M[i] M[k] b) j = vec M[i] j + b * vec M[k] j := vec_addR (by rw [hr _ (List.getElem_mem _), hr _ (List.getElem_mem _)])
 refine span_iff (fun r hr' => ?_) (fun r hr' => ?_) v
 ·obtain ⟨a, ha, rfl⟩ := List.mem_map.1 hr'
  rcases List.mem_or_eq_of_mem_set ha with h | h
  ·exact InSpan.mem (List.mem_map.2 ⟨a, h, rfl⟩)
  ·rw [h]
   exact ((mem_mapv hi).add ((mem_mapv hk).smul b)).congr (fun j => (hv j).symm)
 ·obtain ⟨a, ha, rfl⟩ := List.mem_map.1 hr'
  obtain ⟨t, ht, rfl⟩ := List.mem_iff_getElem.1 ha
  have e : ∀ s (hs : s < M.length), s ≠ i → InSpan ((M.set i (addR M[i] M[k] b)).map vec) (vec M[s]) := fun s hs hsi => by
   have := mem_mapv (M := M.set i (addR M[i] M[k] b)) (i := s) (by rw [hl]; exact hs)
   rwa [List.getElem_set_ne (Ne.symm hsi)] at this
  by_cases hti : t = i
  ·subst hti
   have h1 := mem_mapv (M := M.set t (addR M[t] M[k] b)) (i := t) (by rw [hl]; exact ht)
   rw [List.getElem_set_self] at h1
   exact (h1.sub ((e k hk (Ne.symm hik)).smul b)).congr (fun j => by show vec (addR M[t] M[k] b) j - b * vec M[k] j = _; rw [hv]; omega)
  ·exact e t ht hti
theorem span_swap {M : List (List Int)} {i k : Nat} (hi : i < M.length) (hk : k < M.length) (v : Vec) : InSpan ((swapL M i k hi hk).map vec) v ↔ InSpan (M.map vec) v :=
 span_iff (fun r hr => by obtain ⟨a, ha, rfl⟩ := List.mem_map.1 hr; exact InSpan.mem (List.mem_map.2 ⟨a, swapL_mem a ha, rfl⟩)) (fun r hr => by obtain ⟨a, ha, rfl⟩ := List.mem_map.1 hr; exact InSpan.mem (List.mem_map.2 ⟨a, swapL_mem' a ha, rfl⟩)) v
theorem vec_ng (v : List Int) (j : Nat) : vec (v.map (fun x => -x)) j = -vec v j := by
 unfold vec
 rw [List.getElem?_map]
 cases v[j]? <;> simp
theorem span_neg {M : List (List Int)} {k : Nat} (hk : k < M.length) (v : Vec) : InSpan ((M.set k (M[k].map (fun x => -x))).map vec) v ↔ InSpan (M.map vec) v := by
 refine span_iff (fun r hr => ?_) (fun r hr => ?_) v
 ·obtain ⟨a, ha, rfl⟩ := List.mem_map.1 hr
  rcases List.mem_or_eq_of_mem_set ha with h | h
  ·exact InSpan.mem (List.mem_map.2 ⟨a, h, rfl⟩)
  ·rw [h]
   exact ((mem_mapv hk).smul (-1)).congr (fun j => by rw [vec_ng]; omega)
 ·obtain ⟨a, ha, rfl⟩ := List.mem_map.1 hr
  obtain ⟨t, ht, rfl⟩ := List.mem_iff_getElem.1 ha
  by_cases e : t = k
  ·subst e
   have h1 := mem_mapv (M := M.set t (M[t].map (fun x => -x))) (i := t) (by rw [List.length_set]; exact ht)
   rw [List.getElem_set_self] at h1
   exact (h1.smul (-1)).congr (fun j => by rw [vec_ng]; omega)
  ·have h1 := mem_mapv (M := M.set k (M[k].map (fun x => -x))) (i := t) (by rw [List.length_set]; exact ht)
   rwa [List.getElem_set_ne (Ne.symm e)] at h1
theorem span_snoc {M : List (List Int)} {t : List Int} (ht : InSpan (M.map vec) (vec t)) (v : Vec) : InSpan ((M ++ [t]).map vec) v ↔ InSpan (M.map vec) v := by
 refine span_iff (fun r hr => ?_) (fun r hr => ?_) v
 ·obtain ⟨a, ha, rfl⟩ := List.mem_map.1 hr
  rcases List.mem_append.1 ha with h | h
  ·exact InSpan.mem (List.mem_map.2 ⟨a, h, rfl⟩)
  ·rw [List.mem_singleton.1 h]; exact ht
 ·obtain ⟨a, ha, rfl⟩ := List.mem_map.1 hr
  exact InSpan.mem (List.mem_map.2 ⟨a, List.mem_append_left _ ha, rfl⟩)
theorem NormSpec.same {A B : List (List Int)} {H : List Vec} (h : NormSpec (A.map vec) 0 H) (he : ∀ v, InSpan (B.map vec) v ↔ InSpan (A.map vec) v) : NormSpec (B.map vec) 0 H :=
 ⟨h.nrm, fun v => (h.span v).trans ⟨fun ⟨u, h1, h2⟩ => ⟨u, (he u).2 h1, h2⟩, fun ⟨u, h1, h2⟩ => ⟨u, (he u).1 h1, h2⟩⟩⟩

theorem setCell_cellI {w : World} {g j o : Nat} {u u0 : Value} (h : w.cell? ⟨g, j, none⟩ = some u0) : (w.setCell ⟨g, j, none⟩ u).cell? ⟨g, o, none⟩ = if o = j then some u else w.cell? ⟨g, o, none⟩ := by
 by_cases e : o = j
 ·subst e
  rw [if_pos rfl]
  exact World.cell?_setCell_same _ _ _ h
 ·rw [if_neg e]
  exact World.cell?_setCell_other _ _ _ _ (fun h => e (by injection h with _ h2; exact h2.symm))
theorem IntsOf.onlyN {S : Nat → Prop} {w w' : World} {a : Option Addr} {n c : Nat} {r : List Int} (h : IntsOf w (.slice a n c) r) (ho : Only S w w') (hS : ∀ b, a = some ⟨b, 0, none⟩ → 0 < r.length → w.cell? ⟨b, 0, none⟩ = some (.int .i64 (r[0]?.getD 0)) → ¬ S b) : IntsOf w' (.slice a n c) r := by
 have h0 := h
 obtain ⟨a', c', hv, h1, h2, h3⟩ := h
 injection hv with e1 e2 e3
 subst e1 e2 e3
 refine ⟨a, c, rfl, h1, h2, fun hp => ?_⟩
 obtain ⟨b, hb, hlt, hc⟩ := h3 hp
 have hz : w.cell? ⟨b, 0, none⟩ = some (.int .i64 (r[0]?.getD 0)) := by
  obtain ⟨cs, rfl, _, h5⟩ := hc 0 hp
  have := h5 0 (by omega)
  simpa [List.getElem?_eq_getElem hp, zv] using this
 have hn := hS b hb hp hz
 refine ⟨b, hb, Nat.lt_of_lt_of_le hlt ho.size, fun j hj => ?_⟩
 obtain ⟨cs, k1, k2, k3⟩ := hc j hj
 exact ⟨cs, k1, k2, fun i hi => (ho.cell (p := ⟨b, j * 1 + i, none⟩) hn hlt).trans (k3 i hi)⟩
/-- a row that is read is appended -/
theorem YMt.snoc_mat {w w' : World} {B n g c R cR : Nat} {l : List Yw} {M : List (List Int)} {a : Option Addr} {ct : Nat} {t : List Int} (h : YMt w B (.slice (some ⟨R, 0, none⟩) l.length cR) l n M) (ht : IntsOf w (.slice a n ct) t) (hl : t.length = n) (hl0 : 0 < l.length) (ho : Only (fun b => (Value.slice (some ⟨R, 0, none⟩) l.length cR).ownBlock = some b) w w')
 (hown : w'.ownsRow B 22 1 (.slice (some ⟨g, 0, none⟩) (l.length + 1) c) (l.length + 1) (l.map (yV n) ++ [.slice a n ct])) : MatAt w' (.slice (some ⟨g, 0, none⟩) (l.length + 1) c) (M ++ [t]) := by
 have hlen := h.len
 have h0 := h.ocell (R := R) (c := cR) rfl 0 hl0
 have hne : ∀ b z, w.cell? ⟨b, 0, none⟩ = some (.int .i64 z) → ¬ (Value.slice (some ⟨R, 0, none⟩) l.length cR).ownBlock = some b := fun b z hb e => by
  simp only [Value.ownBlock, Option.some.injEq] at e
  subst e
  rw [h0] at hb
  cases hb
 have e1 : (M ++ [t]).length = l.length + 1 := by simp [hlen]
 rw [← e1] at hown ⊢
 refine SliceOf.of_own (css := l.map (fun x => [yV n x]) ++ [[.slice a n ct]]) (base := B) (e := 22) ?_ ?_ (by simp [hlen]) (fun j h1 h2 => ?_)
 ·rw [List.flatten_append, flatten_one]
  simp only [List.length_append, List.length_map, List.length_singleton, List.flatten_cons, List.flatten_nil, List.append_nil]
  rw [e1] at hown
  rw [hlen]
  exact hown
 ·intro cs hcs
  rcases List.mem_append.1 hcs with h9 | h9
  ·obtain ⟨x, _, rfl⟩ := List.mem_map.1 h9; rfl
  ·rw [List.mem_singleton.1 h9]; rfl
 ·by_cases e : j < l.length
  ·have eM : (M ++ [t])[j]'h1 = M[j]'(by omega) := List.getElem_append_left _
   have eC : (l.map (fun x => [yV n x]) ++ [[Value.slice a n ct]])[j]'h2 = [yV n l[j]] := by rw [List.getElem_append_left (by simpa using e), List.getElem_map]
   rw [eM, eC]
   refine ⟨_, rfl, ?_⟩
   obtain ⟨k1, k2⟩ := h.row j e (by omega)
   have := IntsOf.of_own (r := M[j]'(by omega)) (a := l[j].1) (c := l[j].2) (by rw [k2]; exact ho.own k1 (fun b hb => h.apart j e b hb))
   rwa [k2] at this
  ·have hj : j = l.length := by rw [e1] at h1; omega
   subst hj
   have eM : (M ++ [t])[l.length]'h1 = t := by rw [List.getElem_append_right (by omega)]; simp
   have eC : (l.map (fun x => [yV n x]) ++ [[Value.slice a n ct]])[l.length]'h2 = [Value.slice a n ct] := by rw [List.getElem_append_right (by simp)]; simp
   rw [eM, eC]
   exact ⟨_, rfl, ht.onlyN ho (fun b _ _ hz => hne b _ hz)⟩
theorem uniq_chk {M : List (List Int)} {t : List Int} {n : Nat} (h1 : ∀ r ∈ M, r.length = n) (h2 : ∀ r ∈ M, ∀ x ∈ r, x.natAbs ≤ 240) (h3 : M.length ≤ 5) (h4 : t.length = n) (h5 : ∀ x ∈ t, x.natAbs ≤ 900) (hn : n ≤ 5) : checkZ (M ++ [t]) = 0 := by
 have hr : ∀ r ∈ M ++ [t], r.length = n := fun r hr => by
  rcases List.mem_append.1 hr with h | h
  ·exact h1 r h
  ·rw [List.mem_singleton.1 h]; exact h4
 refine checkZ_ok.2 ⟨by simp; omega, fun r hr' => by rw [hr r hr']; omega, cols_of hr, fun r hr' x hx => ?_⟩
 rcases List.mem_append.1 hr' with h | h
 ·have := h2 r h x hx; omega
 ·rw [List.mem_singleton.1 h] at hx
  have := h5 x hx; omega
set_option maxRecDepth 100000 in
set_option maxHeartbeats 16000000 in
theorem latticeUnique_any (vl : Value) (zl : List Int) (nl : Nat) (vm : Value) (zm : List Int) (nm : Nat) (za zb zc : Int) (w0 : World) (hl : IntsAt w0 vl zl nl) (hm : IntsAt w0 vm zm nm) (a1 : -9223372036854775808 ≤ za) (a2 : za ≤ 9223372036854775807) (b1 : -9223372036854775808 ≤ zb) (b2 : zb ≤ 9223372036854775807) (c1 : -9223372036854775808 ≤ zc) (c2 : zc ≤ 9223372036854775807) :
 Calls Try.prog 6 #[vl, vm, .int .i64 za, .int .i64 zb, .int .i64 zc] w0 fun e w' => e = .returned (.bool true) ∧ Below w0.heap.size w0 w' := by
 have HB := hZ (Below.refl w0.heap.size w0)
 have HL := hZ hl
 have HV := hZ hm
 have Hza := hZ (And.intro a1 a2)
 have Hzb := hZ (And.intro b1 b2)
 have Hzc := hZ (And.intro c1 c2)
 clear hl hm a1 a2 b1 b2 c1 c2
 go_enter Try.func6, Try.ntmps6
 go_wp2_with fail
 refine (matrix_any vl zl nl 20 w0 HL.o (by omega) (by omega)).mono ?_
 rintro e w1 ⟨m, u, rfl, hu, hS, hB⟩
 have HM := hZ hu
 have S := hZ hS.small
 replace HB := bT HB hB
 clear hu hS hB HL
 have HZ := hZ (S.o.chk (by omega))
 go_wp2_with fail
 refine (hermite_any w1 _ m HM.o).mono ?_
 rintro e w2 ⟨hB, ⟨hz, -⟩ | ⟨-, H1, k1, k2, k4, k3⟩⟩
 ·exact absurd HZ.o hz
 have HT1 := hZ (S.o.herm k1)
 obtain ⟨ua, rfl, hu⟩ := k3.fit (fit_top HT1.o)
 have MH' := hZ hu
 have K1 := hZ (And.intro k1 (And.intro k2 k4))
 clear k1 k2 k3 k4 hu
 replace HM := hZ (HM.o.blw hB)
 replace HB := bT HB hB
 clear hB
 have MH := MH'
 clear MH'
 obtain ⟨am, cm, rfl, q1, q2⟩ := HM.o.form
 have HRows := hZ S.o.rows
 have Hc5 := hZ S.o.cols
 obtain ⟨n, hn⟩ : ∃ n, colsOf m = n := ⟨_, rfl⟩
 have Hn := hZ hn
 have Hev := hZ S.o.even
 rw [hn] at Hc5 Hev
 clear hn
 by_cases h0 : m.length = 0
 ·skip
  have HH0 : Hid (H1.length = 0) := hZ (by have := K1.o.2.2; omega)
  obtain ⟨ah, ch, rfl, -, -⟩ := MH.o.form
  have hh0 := HH0.o
  have z1 : (m.length : Int) = 0 := by omega
  have z2 : (H1.length : Int) = 0 := by omega
  go_wp2_with fail
  refine (lives_any w2).mono ?_
  rintro e w3 ⟨rfl, hB⟩
  replace HM := hZ (HM.o.blw hB)
  replace MH := hZ (MH.o.blw hB)
  replace HB := bT HB hB
  clear hB
  go_wp2_with fail
  go_ret
  exact ⟨rfl, HB.o⟩
 ·skip
  have z1 : ¬ (m.length : Int) = 0 := by omega
  have z0 : 0 < m.length := by omega
  have z2 : ((m.length : Int) == 0) = false := by rw [beq_eq_false_iff_ne]; omega
  have hra := around_range za m.length (by omega)
  have hrb := around_range zb m.length (by omega)
  have HA := hZ (around_any za m.length w2 Hza.o.1 Hza.o.2 (by omega) (by omega))
  have HA2 := hZ (around_any zb m.length w2 Hzb.o.1 Hzb.o.2 (by omega) (by omega))
  obtain ⟨zi, hzi⟩ : ∃ z, around za m.length = z := ⟨_, rfl⟩
  obtain ⟨zk, hzk⟩ : ∃ z, around zb m.length = z := ⟨_, rfl⟩
  rw [hzi] at hra HA
  rw [hzk] at hrb HA2
  clear hzi hzk
  obtain ⟨i, hi⟩ := Int.eq_ofNat_of_zero_le hra.1
  subst hi
  obtain ⟨k, hk⟩ := Int.eq_ofNat_of_zero_le hrb.1
  subst hk
  have him : i < m.length := by omega
  have hkm : k < m.length := by omega
  obtain ⟨b0, cap0, a0, c0, hv0, hb0, n0, HR0, -, -⟩ := HM.o.at_ 0 z0
  injection hv0 with f1 f2 f3
  subst f1
  clear f2 f3
  have Hr0 : Hid ((m[0]'z0).length = n) := hZ (Hev.o _ (List.getElem_mem _))
  rw [Hr0.o] at n0
  have HR0 := hZ HR0
  rw [Hr0.o] at HR0
  obtain ⟨bb, hbb⟩ : ∃ z, around zc 7 - 3 = z := ⟨_, rfl⟩
  have hrc := around_range zc 7 (by omega)
  have rb : -3 ≤ bb ∧ bb ≤ 3 := by omega
  have HBd : Hid (∀ w, Calls Try.prog 24 #[.int .i64 zc, .int .i64 3] w fun e w' => e = .returned (.int .i64 bb) ∧ w' = w) := hZ (fun w => by have := bound_eq zc 3 w Hzc.o.1 Hzc.o.2 (by omega) (by omega); rw [show (2 * 3 + 1 : Int) = 7 by omega, hbb] at this; exact this)
  clear hbb hrc
  go_wp2_with fail
  refine HA.o.mono ?_
  rintro e w9 ⟨rfl, hw9⟩
  subst hw9
  clear HA
  go_wp2_with fail
  refine HA2.o.mono ?_
  rintro e w9 ⟨rfl, hw9⟩
  subst hw9
  clear HA2
  go_wp2_with fail
  have HSt := hZ (spoilt_any w2 _ m n 0 0 HM.o (by have := HRows.o; omega) Hev.o (by have := Hc5.o; omega) (by omega) (by omega))
  refine HSt.o.mono ?_
  rintro e w3 ⟨u, rfl, ⟨l, hY⟩, hB⟩
  clear HSt
  have HS := hZ hB
  have HY' := hZ hY
  clear hY hB
  obtain ⟨ws, hws⟩ : ∃ w', w' = w2 := ⟨_, rfl⟩
  rw [← hws] at HM MH HB HS HY' n0 hb0 HR0
  clear hws
  have HY := HY'
  clear HY'
  have Hll : Hid (l.length = m.length) := hZ (by rw [← HY.o.len, spoilL_len])
  obtain ⟨R, cR, rfl⟩ : ∃ R cR, u = .slice (some ⟨R, 0, none⟩) m.length cR := by
   rcases HY.o.own.2 with ⟨e, e2⟩ | ⟨g, cap, cur, e, _⟩
   ·have := Hll.o; omega
   ·exact ⟨g, cap, by rw [e, Hll.o]⟩
  have hc5 := Hc5.o
  have HRB : Hid (ws.heap.size ≤ R) := hZ (HY.o.own.lt R rfl).1
  have d0 := (HS.o.cell (p := ⟨b0, 0, none⟩) hb0).trans n0
  go_upto_if 56 with fail
  go_cut [] from 22 (fun  wc => Hid (YMt wc ws.heap.size (.slice (some ⟨R, 0, none⟩) m.length cR) l n m) ∧ Hid (Below ws.heap.size ws wc))
  ·skip
   by_cases hn0 : 0 < n
   ·skip
    have p1 : (0 : Int) < (n : Int) := by omega
    have h0l : 0 < l.length := by rw [Hll.o]; exact z0
    have HSL : Hid (spoilL m n 0 0 = m.set 0 ((m[0]'z0).set 0 0)) := hZ (by unfold spoilL; rw [if_pos ⟨z0, hn0⟩, around_zero, show (0 : Int).tdiv 5 = 0 from rfl, around_zero]; simp [List.getElem?_eq_getElem z0])
    rw [HSL.o] at HY
    obtain ⟨g0, hg0, hg0B, hg0l, -⟩ := HY.o.some_ hn0 0 h0l
    have Hg0 := hZ hg0
    have e0 := HY.o.ocell (R := R) (c := cR) (by rw [Hll.o]) 0 h0l
    rw [hg0] at e0
    obtain ⟨c90, hc90⟩ : ∃ c, (l[0]'h0l).2 = c := ⟨_, rfl⟩
    rw [hc90] at e0
    clear hg0 hc90
    have hr0l : 0 < (m[0]'z0).length := by rw [Hr0.o]; exact hn0
    obtain ⟨bx, capx, hvx, hbx, x00⟩ := HR0.o.at_ 0 hr0l
    injection hvx with f1 f2 f3
    subst f1
    clear f2 f3
    obtain ⟨x, hx⟩ : ∃ x, (m[0]'z0)[0]'hr0l = x := ⟨_, rfl⟩
    rw [hx] at x00
    have Hx := hZ hx
    clear hx
    have HRl : Hid (R < w3.heap.size) := hZ (HY.o.own.lt R rfl).2
    have Hcs := hZ (And.intro e0 (And.intro d0 ((HS.o.cell (p := ⟨bx, 0, none⟩) hbx).trans x00)))
    have Hls := hZ (And.intro (Nat.lt_of_lt_of_le hb0 HS.o.size) (Nat.lt_of_lt_of_le hbx HS.o.size))
    clear e0 x00
    go_wp2_with fail
    clear d0
    have HD := hZ (Below.refl w3.heap.size w3)
    obtain ⟨w4, hwd⟩ : ∃ w', w3.drew = w' := ⟨_, rfl⟩
    have hB := dB hwd
    replace HY := hZ (HY.o.blw hB)
    replace HD := bT HD hB
    clear hB
    have HBr : Hid (Only (fun b => False) w4 w4) := hZ (Only.refl _ _)
    refine startL [9] (fun w' => Only (fun b => False) w4 w') (by kernel_rfl) (by rw [hwd]; exact Only.refl _ _) (fun hHeld => ?_)
    rw [hwd] at hHeld ⊢
    clear hwd
    replace HS := hZ (HS.o.trans (HD.o.mono HS.o.size))
    have e0 := (HD.o.cell (p := ⟨R, 0, none⟩) HRl.o).trans Hcs.o.1
    have d0 := (HD.o.cell (p := ⟨b0, 0, none⟩) Hls.o.1).trans Hcs.o.2.1
    have x0' := (HD.o.cell (p := ⟨bx, 0, none⟩) Hls.o.2).trans Hcs.o.2.2
    have m0 := Nat.lt_of_lt_of_le HRl.o HD.o.size
    have m1 := Nat.lt_of_lt_of_le Hls.o.1 HD.o.size
    have m2 := Nat.lt_of_lt_of_le Hls.o.2 HD.o.size
    refine pP 0 57 (v := ?_) rfl rfl ?_ ?_
    rotate_left
    ·(intro w; go_simp; first | done | with_reducible rfl)
    simp only [sX1, sX2, sX3]
    refine pP 1 58 (v := ?_) rfl rfl ?_ ?_
    rotate_left
    ·(intro w; go_simp; first | done | with_reducible rfl)
    simp only [sX1, sX2, sX3]
    refine tP 2 59 (v := ?_) rfl rfl ?_ ?_
    rotate_left
    ·(intro w hSw; have x0 := (hSw.cell (p := ⟨R, 0, none⟩) (fun h => h) m0).trans e0; go_simp; first | done | with_reducible rfl)
    simp only [sX1, sX2, sX3]
    refine pP 3 60 (v := ?_) rfl rfl ?_ ?_
    rotate_left
    ·(intro w; go_simp; first | done | with_reducible rfl)
    simp only [sX1, sX2, sX3]
    refine pP 4 61 (v := ?_) rfl rfl ?_ ?_
    rotate_left
    ·(intro w; go_simp; first | done | with_reducible rfl)
    simp only [sX1, sX2, sX3]
    refine tP 5 62 (v := ?_) rfl rfl ?_ ?_
    rotate_left
    ·(intro w hSw; have x0 := (hSw.cell (p := ⟨b0, 0, none⟩) (fun h => h) m1).trans d0; go_simp; first | done | with_reducible rfl)
    simp only [sX1, sX2, sX3]
    refine pP 6 63 (v := ?_) rfl rfl ?_ ?_
    rotate_left
    ·(intro w; go_simp; first | done | with_reducible rfl)
    simp only [sX1, sX2, sX3]
    refine tP 7 64 (v := ?_) rfl rfl ?_ ?_
    rotate_left
    ·(intro w hSw; have x0 := (hSw.cell (p := ⟨bx, 0, none⟩) (fun h => h) m2).trans x0'; go_simp; first | done | with_reducible rfl)
    simp only [sX1, sX2, sX3]
    refine pP 8 65 (v := ?_) rfl rfl ?_ ?_
    rotate_left
    ·(intro w; go_simp; first | done | with_reducible rfl)
    simp only [sX1, sX2, sX3]
    clear e0 d0 x0' m0 m1 m2
    have hme : 0 < (m.set 0 ((m[0]'z0).set 0 0)).length := by rw [List.length_set]; exact z0
    obtain ⟨u9, e1⟩ : ∃ u, w4.cell? ⟨g0, 0, none⟩ = some u := ⟨_, HY.o.cell 0 h0l Hg0.o 0 hn0 hme (by rw [(HY.o.row 0 h0l hme).2]; exact hn0)⟩
    have e2 := HY.o.frozen 0 h0l Hg0.o 0
    have HYn := hZ (HY.o.put (j := 0) h0l hme Hg0.o x)
    obtain ⟨w5, hw⟩ : ∃ w', w4.setCell ⟨g0, 0, none⟩ (.int .i64 x) = w' := ⟨_, rfl⟩
    rw [hw] at HYn
    have ho : Only (fun b => b = g0) w4 w5 := by rw [← hw]; exact (Only.refl (fun b => b = g0) _).set (p := ⟨g0, 0, none⟩) rfl _
    replace HS := hZ (below_only HS.o ho (fun b e => by rw [e]; exact hg0B) HS.o.size)
    clear ho
    simp only [List.getElem_set_self, List.set_set] at HYn
    rw [← Hx.o, List.set_getElem_self, List.set_getElem_self] at HYn
    refine lateL 9 (by kernel_rfl) (by decide) rfl (fun K hK => ?_)
    go_simp
    try rw [hw]
    refine hK.out _ _ ?_
    clear hK K
    try simp only [Act.put, sX1, sX2, sX3]
    clear hw e1 e2 HY hg0l hg0B
    refine doneL (by kernel_rfl) ?_ _
    clear hHeld
    have HY := HYn
    clear HYn
    clear Hcs Hls HRl
    go_wp2_with fail
    go_meet
    case rel => exact ⟨HY, HS⟩
   ·skip
    have p1 : ¬ (0 : Int) < (n : Int) := by omega
    have HSL : Hid (spoilL m n 0 0 = m) := hZ (if_neg (by omega))
    rw [HSL.o] at HY
    go_wp2_with fail
    go_meet
    case rel => exact ⟨HY, HS⟩
  ·skip
   clear HY HS d0
   obtain ⟨HY, HS⟩ := hcut
   obtain ⟨w4, rfl⟩ : ∃ w' : World, w' = wc := ⟨_, rfl⟩
   have d0 := (HS.o.cell (p := ⟨b0, 0, none⟩) hb0).trans n0
   have Hf := hZ (And.intro him hkm)
   obtain ⟨Mi, hMi⟩ : ∃ r, m[i] = r := ⟨_, rfl⟩
   obtain ⟨Mk, hMk⟩ : ∃ r, m[k] = r := ⟨_, rfl⟩
   have HMi := hZ (And.intro hMi hMk)
   have hMil : Mi.length = n := hMi ▸ Hev.o _ (List.getElem_mem _)
   have hMkl : Mk.length = n := hMk ▸ Hev.o _ (List.getElem_mem _)
   have HLe : Hid ((∀ x ∈ Mi, x.natAbs ≤ 60) ∧ ∀ x ∈ Mk, x.natAbs ≤ 60) := hZ ⟨hMi ▸ S.o.ent _ (List.getElem_mem _), hMk ▸ S.o.ent _ (List.getElem_mem _)⟩
   clear hMi hMk
   have HY0 : Hid (YMt w4 ws.heap.size (.slice (some ⟨R, 0, none⟩) m.length cR) l n (m.set i (mixC (addR Mi Mk bb) Mi 0))) := hZ (by rw [mixC_zero, ← HMi.o.1, List.set_getElem_self]; exact HY.o)
   go_step
   go_step
   go_cut [] from 22 (fun  wc => ∃ M : List (List Int), Hid (YMt wc ws.heap.size (.slice (some ⟨R, 0, none⟩) m.length cR) l n M) ∧ Hid (∀ v, InSpan (M.map vec) v ↔ InSpan (m.map vec) v) ∧ Hid (∀ r ∈ M, ∀ x ∈ r, x.natAbs ≤ 240) ∧ Hid (∀ r ∈ M, r.length = n) ∧ Hid (M.length = m.length) ∧ Hid (Below ws.heap.size ws wc))
   ·skip
    go_wp2_with fail
    go_loopw [17] (fun cv wr => ∃ c : Nat, c ≤ n ∧ cv = .int .i64 c ∧ Hid (i = k → c = 0) ∧ Hid (YMt wr ws.heap.size (.slice (some ⟨R, 0, none⟩) m.length cR) l n (m.set i (mixC (addR Mi Mk bb) Mi c))) ∧ Hid (Below ws.heap.size ws wr)) (fun cv _ => n - (intOf cv).toNat)
    case atStart => exact ⟨0, by omega, rfl, hZ (fun _ => rfl), HY0, HS⟩
    case round =>
     clear HY0 HY HS
     obtain ⟨c, hc, rfl, Hc0, HY, HS⟩ := hrel
     obtain ⟨w4, rfl⟩ : ∃ w' : World, w' = wr := ⟨_, rfl⟩
     have d0 := (HS.o.cell (p := ⟨b0, 0, none⟩) hb0).trans n0
     by_cases hik : i = k
     ·skip
      have HYe : Hid (YMt w4 ws.heap.size (.slice (some ⟨R, 0, none⟩) m.length cR) l n m) := hZ (by have h9 := HY.o; rw [Hc0.o hik, mixC_zero, ← HMi.o.1, List.set_getElem_self] at h9; exact h9)
      have HSp : Hid (∀ v, InSpan (m.map vec) v ↔ InSpan (m.map vec) v) := hZ (fun _ => Iff.rfl)
      have ik1 : ((i : Int) != (k : Int)) = false := by simp [hik]
      clear hik
      clear HY
      have HY := HYe
      clear HYe
      have HMe : Hid (∀ r ∈ m, ∀ x ∈ r, x.natAbs ≤ 240) := hZ (fun r hr x hx => by have := S.o.ent r hr x hx; omega)
      have HMv := Hev
      have HMy : Hid (m.length = m.length) := hZ rfl
      rcases Nat.lt_or_ge c n with hcn | hcn
      ·skip
       have cn : (c : Int) < (n : Int) := by omega
       go_wp2_with fail
       go_meet
       case rel => exact ⟨_, HY, hZ (fun _ => Iff.rfl), HMe, HMv, hZ rfl, HS⟩
      ·skip
       have cn : ¬ (c : Int) < (n : Int) := by omega
       go_wp2_with fail
       go_meet
       case rel => exact ⟨_, HY, hZ (fun _ => Iff.rfl), HMe, HMv, hZ rfl, HS⟩
     ·skip
      have ik1 : ((i : Int) != (k : Int)) = true := by simp; omega
      have ik2 : ¬ (i : Int) = (k : Int) := by omega
      by_cases hcn : c < n
      ·skip
       have cn : (c : Int) < (n : Int) := by omega
       have cn0 : (0 : Int) ≤ (c : Int) := by omega
       have hlen := HY.o.len
       have hml : (m.set i (mixC (addR Mi Mk bb) Mi c)).length = m.length := List.length_set
       have i1 : (0 : Int) ≤ (i : Int) := by omega
       have i2 : (i : Int) < (m.length : Int) := by omega
       have k1 : (0 : Int) ≤ (k : Int) := by omega
       have k2 : (k : Int) < (m.length : Int) := by omega
       have hil : i < l.length := by rw [Hll.o]; exact him
       have hkl : k < l.length := by rw [Hll.o]; exact hkm
       obtain ⟨gi, hgi, hgiB, hgil, -⟩ := HY.o.some_ (by omega) i hil
       obtain ⟨gk, hgk, -, hgkl, -⟩ := HY.o.some_ (by omega) k hkl
       have Hgi := hZ hgi
       have Hgk := hZ hgk
       have ei := HY.o.ocell (R := R) (c := cR) (by rw [Hll.o]) i hil
       have ek := HY.o.ocell (R := R) (c := cR) (by rw [Hll.o]) k hkl
       rw [hgi] at ei
       rw [hgk] at ek
       obtain ⟨ci, hci⟩ : ∃ c, l[i].2 = c := ⟨_, rfl⟩
       obtain ⟨ck, hck⟩ : ∃ c, l[k].2 = c := ⟨_, rfl⟩
       rw [hci] at ei
       rw [hck] at ek
       clear hgi hgk hci hck
       have hci : c < Mi.length := by omega
       have hck : c < Mk.length := by omega
       obtain ⟨x, hx⟩ : ∃ x, Mi[c] = x := ⟨_, rfl⟩
       obtain ⟨y, hy⟩ : ∃ x, Mk[c] = x := ⟨_, rfl⟩
       have vx := HY.o.cell i hil Hgi.o c hcn (by rw [hml]; exact him) (by rw [List.getElem_set_self, mixC_len (by rw [addR_len]) (by omega)]; exact hci)
       simp only [List.getElem_set_self] at vx
       rw [mixC_at (by rw [addR_len]) hci, hx] at vx
       have vy := HY.o.cell k hkl Hgk.o c hcn (by rw [hml]; exact hkm) (by rw [List.getElem_set_ne hik, HMi.o.2]; exact hck)
       simp only [List.getElem_set_ne hik, HMi.o.2] at vy
       rw [hy] at vy
       have rx : -60 ≤ x ∧ x ≤ 60 := by have := HLe.o.1 x (hx ▸ List.getElem_mem _); omega
       have ry : -60 ≤ y ∧ y ≤ 60 := by have := HLe.o.2 y (hy ▸ List.getElem_mem _); omega
       obtain ⟨p0, hp0⟩ : ∃ z : Int, bb * y = z := ⟨_, rfl⟩
       have rp0 : -180 ≤ p0 ∧ p0 ≤ 180 := by rw [← hp0]; rcases (show bb = -3 ∨ bb = -2 ∨ bb = -1 ∨ bb = 0 ∨ bb = 1 ∨ bb = 2 ∨ bb = 3 by omega) with e | e | e | e | e | e | e <;> rw [e] <;> omega
       have wp0 : IntKind.i64.wrap (bb * y) = p0 := by rw [hp0]; exact IntWalk.i64_in _ (by omega)
       obtain ⟨z, hz⟩ : ∃ z : Int, x + p0 = z := ⟨_, rfl⟩
       have wz : IntKind.i64.wrap (x + p0) = z := by rw [hz]; exact IntWalk.i64_in _ (by omega)
       have Hzz : Hid (z = (addR Mi Mk bb)[c]'(by rw [addR_len]; exact hci)) := hZ (by rw [addR_at c hci, vec_at hci, vec_at hck, hx, hy, hp0, hz])
       have wz' : IntKind.i64.wrap z = z := IntWalk.i64_in _ (by omega)
       have wp0' : IntKind.i64.wrap p0 = p0 := IntWalk.i64_in _ (by omega)
       clear hx hy
       have HRl : Hid (R < w4.heap.size) := hZ (HY.o.own.lt R rfl).2
       have Hcs := hZ (And.intro ei (And.intro ek (And.intro vx vy)))
       have Hls := hZ (And.intro hgil hgkl)
       clear vx vy ei ek hgil hgkl
       go_wp2_with fail
       have HD := hZ (Below.refl w4.heap.size w4)
       obtain ⟨w5, hwd⟩ : ∃ w', w4.drew = w' := ⟨_, rfl⟩
       have hB := dB hwd
       replace HY := hZ (HY.o.blw hB)
       replace HD := bT HD hB
       clear hB
       have HBr : Hid (Only (fun b => False) w5 w5) := hZ (Only.refl _ _)
       refine startL [24] (fun w' => Only (fun b => False) w5 w') (by kernel_rfl) (by rw [hwd]; exact Only.refl _ _) (fun hHeld => ?_)
       rw [hwd] at hHeld ⊢
       clear hwd
       replace HS := hZ (HS.o.trans (HD.o.mono HS.o.size))
       have ei := (HD.o.cell (p := ⟨R, i, none⟩) HRl.o).trans Hcs.o.1
       have ek := (HD.o.cell (p := ⟨R, k, none⟩) HRl.o).trans Hcs.o.2.1
       have vx := (HD.o.cell (p := ⟨gi, c, none⟩) Hls.o.1).trans Hcs.o.2.2.1
       have vy := (HD.o.cell (p := ⟨gk, c, none⟩) Hls.o.2).trans Hcs.o.2.2.2
       have m0 := Nat.lt_of_lt_of_le HRl.o HD.o.size
       have m1 := Nat.lt_of_lt_of_le Hls.o.1 HD.o.size
       have m2 := Nat.lt_of_lt_of_le Hls.o.2 HD.o.size
       refine pP 0 79 (v := ?_) rfl rfl ?_ ?_
       rotate_left
       ·(intro w; go_simp; first | done | with_reducible rfl)
       simp only [sX1, sX2, sX3]
       refine pP 1 80 (v := ?_) rfl rfl ?_ ?_
       rotate_left
       ·(intro w; go_simp; first | done | with_reducible rfl)
       simp only [sX1, sX2, sX3]
       refine pP 2 81 (v := ?_) rfl rfl ?_ ?_
       rotate_left
       ·(intro w; go_simp; first | done | with_reducible rfl)
       simp only [sX1, sX2, sX3]
       refine tP 3 82 (v := ?_) rfl rfl ?_ ?_
       rotate_left
       ·(intro w hSw; have x0 := (hSw.cell (p := ⟨R, i, none⟩) (fun h => h) m0).trans ei; go_simp; first | done | with_reducible rfl)
       simp only [sX1, sX2, sX3]
       refine pP 4 83 (v := ?_) rfl rfl ?_ ?_
       rotate_left
       ·(intro w; go_simp; first | done | with_reducible rfl)
       simp only [sX1, sX2, sX3]
       refine pP 5 84 (v := ?_) rfl rfl ?_ ?_
       rotate_left
       ·(intro w; go_simp; first | done | with_reducible rfl)
       simp only [sX1, sX2, sX3]
       refine pP 6 85 (v := ?_) rfl rfl ?_ ?_
       rotate_left
       ·(intro w; go_simp; first | done | with_reducible rfl)
       simp only [sX1, sX2, sX3]
       refine pP 7 86 (v := ?_) rfl rfl ?_ ?_
       rotate_left
       ·(intro w; go_simp; first | done | with_reducible rfl)
       simp only [sX1, sX2, sX3]
       refine tP 8 87 (v := ?_) rfl rfl ?_ ?_
       rotate_left
       ·(intro w hSw; have x0 := (hSw.cell (p := ⟨R, i, none⟩) (fun h => h) m0).trans ei; go_simp; first | done | with_reducible rfl)
       simp only [sX1, sX2, sX3]
       refine pP 9 88 (v := ?_) rfl rfl ?_ ?_
       rotate_left
       ·(intro w; go_simp; first | done | with_reducible rfl)
       simp only [sX1, sX2, sX3]
       refine pP 10 89 (v := ?_) rfl rfl ?_ ?_
       rotate_left
       ·(intro w; go_simp; first | done | with_reducible rfl)
       simp only [sX1, sX2, sX3]
       refine tP 11 90 (v := ?_) rfl rfl ?_ ?_
       rotate_left
       ·(intro w hSw; have x0 := (hSw.cell (p := ⟨gi, c, none⟩) (fun h => h) m1).trans vx; go_simp; first | done | with_reducible rfl)
       simp only [sX1, sX2, sX3]
       refine pP 12 91 (v := ?_) rfl rfl ?_ ?_
       rotate_left
       ·(intro w; go_simp; first | done | with_reducible rfl)
       simp only [sX1, sX2, sX3]
       refine pP 14 93 (v := ?_) rfl rfl ?_ ?_
       rotate_left
       ·(intro w; go_simp; first | done | with_reducible rfl)
       simp only [sX1, sX2, sX3]
       refine pP 15 94 (v := ?_) rfl rfl ?_ ?_
       rotate_left
       ·(intro w; go_simp; first | done | with_reducible rfl)
       simp only [sX1, sX2, sX3]
       refine pP 16 95 (v := ?_) rfl rfl ?_ ?_
       rotate_left
       ·(intro w; go_simp; first | done | with_reducible rfl)
       simp only [sX1, sX2, sX3]
       refine tP 17 96 (v := ?_) rfl rfl ?_ ?_
       rotate_left
       ·(intro w hSw; have x0 := (hSw.cell (p := ⟨R, k, none⟩) (fun h => h) m0).trans ek; go_simp; first | done | with_reducible rfl)
       simp only [sX1, sX2, sX3]
       refine pP 18 97 (v := ?_) rfl rfl ?_ ?_
       rotate_left
       ·(intro w; go_simp; first | done | with_reducible rfl)
       simp only [sX1, sX2, sX3]
       refine pP 19 98 (v := ?_) rfl rfl ?_ ?_
       rotate_left
       ·(intro w; go_simp; first | done | with_reducible rfl)
       simp only [sX1, sX2, sX3]
       refine tP 20 99 (v := ?_) rfl rfl ?_ ?_
       rotate_left
       ·(intro w hSw; have x0 := (hSw.cell (p := ⟨gk, c, none⟩) (fun h => h) m2).trans vy; go_simp; first | done | with_reducible rfl)
       simp only [sX1, sX2, sX3]
       clear ei ek vx vy m0 m1 m2
       refine stepL 13 (by kernel_rfl) rfl (fun K hK => ?_)
       go_simp
       refine (HBd.o w5).mono ?_
       rintro e w9 ⟨rfl, hw9⟩
       replace hw9 := hw9.symm
       subst hw9
       refine hK.out _ _ HBr.o (fun hHeld => ?_)
       clear hK K
       try simp only [Act.put, sX1, sX2, sX3]
       refine pP 21 100 (v := ?_) rfl rfl ?_ ?_
       rotate_left
       ·(intro w; go_simp; first | done | with_reducible rfl)
       simp only [sX1, sX2, sX3]
       refine pP 22 101 (v := ?_) rfl rfl ?_ ?_
       rotate_left
       ·(intro w; go_simp; first | done | with_reducible rfl)
       simp only [sX1, sX2, sX3]
       refine pP 23 102 (v := ?_) rfl rfl ?_ ?_
       rotate_left
       ·(intro w; go_simp; first | done | with_reducible rfl)
       simp only [sX1, sX2, sX3]
       have hme : i < (m.set i (mixC (addR Mi Mk bb) Mi c)).length := by rw [List.length_set]; exact him
       obtain ⟨u9, e1⟩ : ∃ u, w5.cell? ⟨gi, c, none⟩ = some u := ⟨_, HY.o.cell i hil Hgi.o c hcn hme (by rw [(HY.o.row i hil hme).2]; exact hcn)⟩
       have e2 := HY.o.frozen i hil Hgi.o c
       have HYn := hZ (HY.o.put (j := c) hil hme Hgi.o z)
       obtain ⟨w6, hw⟩ : ∃ w', w5.setCell ⟨gi, c, none⟩ (.int .i64 z) = w' := ⟨_, rfl⟩
       rw [hw] at HYn
       have ho : Only (fun b => b = gi) w5 w6 := by rw [← hw]; exact (Only.refl (fun b => b = gi) _).set (p := ⟨gi, c, none⟩) rfl _
       replace HS := hZ (below_only HS.o ho (fun b e => by rw [e]; exact hgiB) HS.o.size)
       clear ho
       simp only [List.getElem_set_self, List.set_set] at HYn
       rw [mixC_set (by rw [addR_len]) hci Hzz.o] at HYn
       refine lateL 24 (by kernel_rfl) (by decide) rfl (fun K hK => ?_)
       go_simp
       try rw [hw]
       refine hK.out _ _ ?_
       clear hK K
       try simp only [Act.put, sX1, sX2, sX3]
       clear hw e1 e2
       refine doneL (by kernel_rfl) ?_ _
       clear hHeld
       go_wp2_with fail
       go_roundw
       case rel => exact ⟨c + 1, by omega, by go_num, hZ (fun h9 => absurd h9 hik), HYn, HS⟩
       case measure => simp [intOf]; omega
      ·skip
       have cn : ¬ (c : Int) < (n : Int) := by omega
       obtain ⟨M, hM⟩ : ∃ M, m.set i (addR Mi Mk bb) = M := ⟨_, rfl⟩
       have HYe : Hid (YMt w4 ws.heap.size (.slice (some ⟨R, 0, none⟩) m.length cR) l n M) := hZ (by have h9 := HY.o; rw [show c = n by omega, mixC_all (by rw [addR_len]; exact hMil) hMil, hM] at h9; exact h9)
       have HSp : Hid (∀ v, InSpan (M.map vec) v ↔ InSpan (m.map vec) v) := hZ (fun v => by rw [← hM, ← HMi.o.1, ← HMi.o.2]; exact span_add Hev.o him hkm hik v)
       have HMe : Hid (∀ r ∈ M, ∀ x ∈ r, x.natAbs ≤ 240) := hZ (fun r hr x hx => by rw [← hM] at hr; rcases List.mem_or_eq_of_mem_set hr with h9 | h9; have := S.o.ent r h9 x hx; omega; rw [h9] at hx; exact addR_le HLe.o.1 HLe.o.2 rb x hx)
       have HMv : Hid (∀ r ∈ M, r.length = n) := hZ (fun r hr => by rw [← hM] at hr; rcases List.mem_or_eq_of_mem_set hr with h9 | h9; exact Hev.o r h9; rw [h9, addR_len]; exact hMil)
       have HMy : Hid (M.length = m.length) := hZ (by rw [← hM, List.length_set])
       clear HY hM
       have HY := HYe
       clear HYe
       go_wp2_with fail
       go_meet
       case rel => exact ⟨_, HY, HSp, HMe, HMv, HMy, HS⟩
   ·skip
    clear HY0 HY HS d0
    obtain ⟨M, HY, HSp, HMe, HMv, HMy, HS⟩ := hcut
    obtain ⟨w5, rfl⟩ : ∃ w' : World, w' = wc := ⟨_, rfl⟩
    have d0 := (HS.o.cell (p := ⟨b0, 0, none⟩) hb0).trans n0
    have i1 : (0 : Int) ≤ (i : Int) := by omega
    have i2 : (i : Int) < (m.length : Int) := by omega
    have k1 : (0 : Int) ≤ (k : Int) := by omega
    have k2 : (k : Int) < (m.length : Int) := by omega
    have hil : i < l.length := by rw [Hll.o]; exact him
    have hkl : k < l.length := by rw [Hll.o]; exact hkm
    have hiM : i < M.length := by rw [HMy.o]; exact him
    have hkM : k < M.length := by rw [HMy.o]; exact hkm
    have ei := HY.o.ocell (R := R) (c := cR) (by rw [Hll.o]) i hil
    have ek := HY.o.ocell (R := R) (c := cR) (by rw [Hll.o]) k hkl
    have f1 := HY.o.ofrozen (R := R) (c := cR) (by rw [Hll.o]) i
    have f2 := HY.o.ofrozen (R := R) (c := cR) (by rw [Hll.o]) k
    have HNs : Hid (YMt ((w5.setCell ⟨R, i, none⟩ (.slice l[k].1 n l[k].2)).setCell ⟨R, k, none⟩ (.slice l[i].1 n l[i].2)) ws.heap.size (.slice (some ⟨R, 0, none⟩) m.length cR) (swapL l i k hil hkl) n (swapL M i k hiM hkM)) := hZ (by have h9 := HY.o; rw [← Hll.o] at h9 ⊢; exact h9.swap hil hkl hiM hkM)
    have HSp2 : Hid (∀ v, InSpan ((swapL M i k hiM hkM).map vec) v ↔ InSpan (m.map vec) v) := hZ (fun v => (span_swap hiM hkM v).trans (HSp.o v))
    have HM2 : Hid ((∀ r ∈ swapL M i k hiM hkM, r.length = n) ∧ (∀ r ∈ swapL M i k hiM hkM, ∀ x ∈ r, x.natAbs ≤ 240) ∧ (swapL M i k hiM hkM).length = m.length ∧ (swapL l i k hil hkl).length = m.length) := hZ ⟨fun r hr => HMv.o r (swapL_mem r hr), fun r hr => HMe.o r (swapL_mem r hr), by rw [swapL_len, HMy.o], by rw [swapL_len, Hll.o]⟩
    obtain ⟨M2, hM2⟩ : ∃ x, swapL M i k hiM hkM = x := ⟨_, rfl⟩
    obtain ⟨l2, hl2⟩ : ∃ x, swapL l i k hil hkl = x := ⟨_, rfl⟩
    rw [hM2] at HNs HSp2 HM2
    rw [hl2] at HNs HM2
    clear hM2 hl2
    obtain ⟨ai, hai⟩ : ∃ g, l[i].1 = g := ⟨_, rfl⟩
    obtain ⟨ci, hci⟩ : ∃ g, l[i].2 = g := ⟨_, rfl⟩
    obtain ⟨ak, hak⟩ : ∃ g, l[k].1 = g := ⟨_, rfl⟩
    obtain ⟨ck, hck⟩ : ∃ g, l[k].2 = g := ⟨_, rfl⟩
    rw [hai, hci] at ei
    rw [hak, hck] at ek
    rw [hai, hci, hak, hck] at HNs
    clear hai hci hak hck
    obtain ⟨u9, e9⟩ : ∃ u, (w5.setCell ⟨R, i, none⟩ (.slice ak n ck)).cell? ⟨R, k, none⟩ = some u := by rw [setCell_cellI ei]; split; exact ⟨_, rfl⟩; exact ⟨_, ek⟩
    have ho9 : Only (fun g => g = R) w5 ((w5.setCell ⟨R, i, none⟩ (.slice ak n ck)).setCell ⟨R, k, none⟩ (.slice ai n ci)) := ((Only.refl (fun g => g = R) w5).set (p := ⟨R, i, none⟩) rfl _).set (p := ⟨R, k, none⟩) rfl _
    obtain ⟨w6, hw⟩ : ∃ w', (w5.setCell ⟨R, i, none⟩ (.slice ak n ck)).setCell ⟨R, k, none⟩ (.slice ai n ci) = w' := ⟨_, rfl⟩
    rw [hw] at HNs ho9
    replace HS := hZ (below_only HS.o ho9 (fun b e => by rw [e]; exact HRB.o) HS.o.size)
    clear ho9
    have HRl : Hid (R < w5.heap.size) := hZ (HY.o.own.lt R rfl).2
    clear HY HSp HMe HMv HMy
    have d0x := d0
    go_wp2_with fail
    try clear hw
    try clear e9
    clear ei ek f1 f2 hiM hkM hil hkl d0 d0x
    have hkM2 : k < M2.length := by rw [HM2.o.2.2.1]; exact hkm
    have HYz : Hid (YMt w6 ws.heap.size (.slice (some ⟨R, 0, none⟩) m.length cR) l2 n (M2.set k (mixC (M2[k].map (fun x => -x)) M2[k] 0))) := hZ (by rw [mixC_zero, List.set_getElem_self]; exact HNs.o)
    clear HNs
    obtain ⟨Rk, hRk⟩ : ∃ r, M2[k] = r := ⟨_, rfl⟩
    rw [hRk] at HYz
    have HRk := hZ hRk
    have hRkl : Rk.length = n := hRk ▸ HM2.o.1 _ (List.getElem_mem _)
    have hRke : ∀ x ∈ Rk, x.natAbs ≤ 240 := hRk ▸ HM2.o.2.1 _ (List.getElem_mem _)
    have HRke := hZ hRke
    clear hRk hRke
    go_loopw [19] (fun cv wr => ∃ c : Nat, c ≤ n ∧ cv = .int .i64 c ∧ Hid (YMt wr ws.heap.size (.slice (some ⟨R, 0, none⟩) m.length cR) l2 n (M2.set k (mixC (Rk.map (fun x => -x)) Rk c))) ∧ Hid (Below ws.heap.size ws wr)) (fun cv _ => n - (intOf cv).toNat)
    case atStart => exact ⟨0, by omega, rfl, HYz, HS⟩
    case round =>
     clear HYz HS
     obtain ⟨c9, hc9, rfl, HY, HS⟩ := hrel
     obtain ⟨w6, rfl⟩ : ∃ w' : World, w' = wr := ⟨_, rfl⟩
     have d0 := (HS.o.cell (p := ⟨b0, 0, none⟩) hb0).trans n0
     have hl2l : k < l2.length := by rw [HM2.o.2.2.2]; exact hkm
     by_cases hcn : c9 < n
     ·skip
      have cn : (c9 : Int) < (n : Int) := by omega
      have cn0 : (0 : Int) ≤ (c9 : Int) := by omega
      obtain ⟨gk, hgk, hgkB, hgkl, -⟩ := HY.o.some_ (by omega) k hl2l
      have Hgk := hZ hgk
      have Hgk' := Hgk
      have ek := HY.o.ocell (R := R) (c := cR) (by rw [HM2.o.2.2.2]) k hl2l
      rw [hgk] at ek
      obtain ⟨ck9, hck⟩ : ∃ c, l2[k].2 = c := ⟨_, rfl⟩
      rw [hck] at ek
      clear hgk hck
      have hck : c9 < Rk.length := by omega
      obtain ⟨x, hx⟩ : ∃ x, Rk[c9] = x := ⟨_, rfl⟩
      have hme : k < (M2.set k (mixC (Rk.map (fun x => -x)) Rk c9)).length := by rw [List.length_set]; exact hkM2
      have vx := HY.o.cell k hl2l Hgk.o c9 hcn hme (by rw [List.getElem_set_self, mixC_len (by simp) (by omega)]; exact hck)
      simp only [List.getElem_set_self] at vx
      rw [mixC_at (by simp) hck, hx] at vx
      have rx : -240 ≤ x ∧ x ≤ 240 := by have := HRke.o x (hx ▸ List.getElem_mem _); omega
      have wx : IntKind.i64.wrap (-x) = -x := IntWalk.i64_in _ (by omega)
      have Hzz : Hid (-x = (Rk.map (fun x => -x))[c9]'(by simpa using hck)) := hZ (by rw [List.getElem_map, hx])
      clear hx
      have HRl2 : Hid (R < w6.heap.size) := hZ (HY.o.own.lt R rfl).2
      have Hcs := hZ (And.intro ek vx)
      have Hls := hZ hgkl
      clear vx ek hgkl
      go_wp2_with fail
      have HD := hZ (Below.refl w6.heap.size w6)
      obtain ⟨w7, hwd⟩ : ∃ w', w6.drew = w' := ⟨_, rfl⟩
      have hB := dB hwd
      replace HY := hZ (HY.o.blw hB)
      replace HD := bT HD hB
      clear hB
      have HBr : Hid (Only (fun b => False) w7 w7) := hZ (Only.refl _ _)
      refine startL [14] (fun w' => Only (fun b => False) w7 w') (by kernel_rfl) (by rw [hwd]; exact Only.refl _ _) (fun hHeld => ?_)
      rw [hwd] at hHeld ⊢
      clear hwd
      replace HS := hZ (HS.o.trans (HD.o.mono HS.o.size))
      have ek := (HD.o.cell (p := ⟨R, k, none⟩) HRl2.o).trans Hcs.o.1
      have vx := (HD.o.cell (p := ⟨gk, c9, none⟩) Hls.o).trans Hcs.o.2
      have m0 := Nat.lt_of_lt_of_le HRl2.o HD.o.size
      have m1 := Nat.lt_of_lt_of_le Hls.o HD.o.size
      refine pP 0 126 (v := ?_) rfl rfl ?_ ?_
      rotate_left
      ·(intro w; go_simp; first | done | with_reducible rfl)
      simp only [sX1, sX2, sX3]
      refine pP 1 127 (v := ?_) rfl rfl ?_ ?_
      rotate_left
      ·(intro w; go_simp; first | done | with_reducible rfl)
      simp only [sX1, sX2, sX3]
      refine pP 2 128 (v := ?_) rfl rfl ?_ ?_
      rotate_left
      ·(intro w; go_simp; first | done | with_reducible rfl)
      simp only [sX1, sX2, sX3]
      refine tP 3 129 (v := ?_) rfl rfl ?_ ?_
      rotate_left
      ·(intro w hSw; have x0 := (hSw.cell (p := ⟨R, k, none⟩) (fun h => h) m0).trans ek; go_simp; first | done | with_reducible rfl)
      simp only [sX1, sX2, sX3]
      refine pP 4 130 (v := ?_) rfl rfl ?_ ?_
      rotate_left
      ·(intro w; go_simp; first | done | with_reducible rfl)
      simp only [sX1, sX2, sX3]
      refine pP 5 131 (v := ?_) rfl rfl ?_ ?_
      rotate_left
      ·(intro w; go_simp; first | done | with_reducible rfl)
      simp only [sX1, sX2, sX3]
      refine pP 6 132 (v := ?_) rfl rfl ?_ ?_
      rotate_left
      ·(intro w; go_simp; first | done | with_reducible rfl)
      simp only [sX1, sX2, sX3]
      refine pP 7 133 (v := ?_) rfl rfl ?_ ?_
      rotate_left
      ·(intro w; go_simp; first | done | with_reducible rfl)
      simp only [sX1, sX2, sX3]
      refine tP 8 134 (v := ?_) rfl rfl ?_ ?_
      rotate_left
      ·(intro w hSw; have x0 := (hSw.cell (p := ⟨R, k, none⟩) (fun h => h) m0).trans ek; go_simp; first | done | with_reducible rfl)
      simp only [sX1, sX2, sX3]
      refine pP 9 135 (v := ?_) rfl rfl ?_ ?_
      rotate_left
      ·(intro w; go_simp; first | done | with_reducible rfl)
      simp only [sX1, sX2, sX3]
      refine pP 10 136 (v := ?_) rfl rfl ?_ ?_
      rotate_left
      ·(intro w; go_simp; first | done | with_reducible rfl)
      simp only [sX1, sX2, sX3]
      refine tP 11 137 (v := ?_) rfl rfl ?_ ?_
      rotate_left
      ·(intro w hSw; have x0 := (hSw.cell (p := ⟨gk, c9, none⟩) (fun h => h) m1).trans vx; go_simp; first | done | with_reducible rfl)
      simp only [sX1, sX2, sX3]
      refine pP 12 138 (v := ?_) rfl rfl ?_ ?_
      rotate_left
      ·(intro w; go_simp; first | done | with_reducible rfl)
      simp only [sX1, sX2, sX3]
      refine pP 13 139 (v := ?_) rfl rfl ?_ ?_
      rotate_left
      ·(intro w; go_simp; first | done | with_reducible rfl)
      simp only [sX1, sX2, sX3]
      clear ek vx m0 m1
      obtain ⟨z9, hz9⟩ : ∃ z : Int, -x = z := ⟨_, rfl⟩
      rw [hz9] at Hzz
      try simp only [wx]
      try simp only [hz9]
      skip
      obtain ⟨u9, e1⟩ : ∃ u, w7.cell? ⟨gk, c9, none⟩ = some u := ⟨_, HY.o.cell k hl2l Hgk.o c9 hcn hme (by rw [(HY.o.row k hl2l hme).2]; exact hcn)⟩
      have e2 := HY.o.frozen k hl2l Hgk.o c9
      have HYn := hZ (HY.o.put (j := c9) hl2l hme Hgk.o z9)
      obtain ⟨w8, hw⟩ : ∃ w', w7.setCell ⟨gk, c9, none⟩ (.int .i64 z9) = w' := ⟨_, rfl⟩
      rw [hw] at HYn
      have ho : Only (fun b => b = gk) w7 w8 := by rw [← hw]; exact (Only.refl (fun b => b = gk) _).set (p := ⟨gk, c9, none⟩) rfl _
      replace HS := hZ (below_only HS.o ho (fun b e => by rw [e]; exact hgkB) HS.o.size)
      clear ho
      simp only [List.getElem_set_self, List.set_set] at HYn
      rw [mixC_set (by simp) hck Hzz.o] at HYn
      refine lateL 14 (by kernel_rfl) (by decide) rfl (fun K hK => ?_)
      go_simp
      try rw [hw]
      refine hK.out _ _ ?_
      clear hK K
      try simp only [Act.put, sX1, sX2, sX3]
      clear hw e1 e2
      refine doneL (by kernel_rfl) ?_ _
      clear hHeld
      go_wp2_with fail
      go_roundw
      case rel => exact ⟨c9 + 1, by omega, by go_num, HYn, HS⟩
      case measure => simp [intOf]; omega
     ·skip
      have cn : ¬ (c9 : Int) < (n : Int) := by omega
      obtain ⟨M3, hM3⟩ : ∃ M, M2.set k (Rk.map (fun x => -x)) = M := ⟨_, rfl⟩
      have HYe : Hid (YMt w6 ws.heap.size (.slice (some ⟨R, 0, none⟩) m.length cR) l2 n M3) := hZ (by have h9 := HY.o; rw [show c9 = n by omega, mixC_all (by simpa using hRkl) hRkl, hM3] at h9; exact h9)
      have HSp3 : Hid (∀ v, InSpan (M3.map vec) v ↔ InSpan (m.map vec) v) := hZ (fun v => by rw [← hM3, ← HRk.o]; exact (span_neg hkM2 v).trans (HSp2.o v))
      have HM3 : Hid ((∀ r ∈ M3, r.length = n) ∧ (∀ r ∈ M3, ∀ x ∈ r, x.natAbs ≤ 240) ∧ M3.length = m.length) := hZ (by rw [← hM3]; exact ⟨fun r hr => by rcases List.mem_or_eq_of_mem_set hr with h9 | h9; exact HM2.o.1 r h9; rw [h9, List.length_map]; exact hRkl, fun r hr x hx => by rcases List.mem_or_eq_of_mem_set hr with h9 | h9; exact HM2.o.2.1 r h9 x hx; rw [h9] at hx; obtain ⟨y, hy, rfl⟩ := List.mem_map.1 hx; have := HRke.o y hy; omega, by rw [List.length_set]; exact HM2.o.2.2.1⟩)
      clear HY hM3
      have HY := HYe
      clear HYe
      have MHs := MH
      have HBws := hZ HB.o.size
      have HBws2 := HS
      replace HM := hZ (HM.o.blw HS.o)
      replace MH := hZ (MH.o.blw HS.o)
      replace HB := hZ (HB.o.trans (HS.o.mono HB.o.size))
      clear HS
      go_wp2_with fail
      try clear d0
      refine (vector_any vm zm nm m.length w6 (HV.o.below (Nat.le_refl _) HB.o) (by have := HRows.o; omega)).mono ?_
      rintro e w7 ⟨hB, uv, lv, rfl, hu, hlv, hev⟩
      have HU' := hZ hu
      have HLv := hZ (And.intro hlv hev)
      clear hu hlv hev
      replace HY := hZ (HY.o.blw hB)
      replace HM := hZ (HM.o.blw hB)
      replace MH := hZ (MH.o.blw hB)
      replace HB := bT HB hB
      replace HBws2 := bT HBws2 hB
      clear hB
      have HU := HU'
      clear HU'
      go_wp2_with fail
      refine (rtimes_any w7 _ _ lv m 3 60 HM.o HU.o HLv.o.1 S.o.even (by have := HRows.o; omega) (by have := Hc5.o; have := Hn.o; omega) (fun x hx => by have := HLv.o.2 x hx; omega) S.o.ent (by have := HRows.o; omega)).mono ?_
      rintro e w8 ⟨hB, ut, rfl, hu⟩
      have HT' := hZ hu
      clear hu
      replace HY := hZ (HY.o.blw hB)
      replace HM := hZ (HM.o.blw hB)
      replace MH := hZ (MH.o.blw hB)
      replace HU := hZ (HU.o.blw hB)
      replace HB := bT HB hB
      replace HBws2 := bT HBws2 hB
      clear hB
      have HTm := HT'
      clear HT'
      obtain ⟨at9, ct9, rfl, -, -⟩ := HTm.o.form
      have HTl : Hid ((timesL lv m).length = n) := hZ (by rw [timesL_len, Hn.o])
      have HTe : Hid (∀ x ∈ timesL lv m, x.natAbs ≤ 900) := hZ (fun x hx => by have := S.o.times_le HLv.o.2 x hx; omega)
      have HTs : Hid (InSpan (m.map vec) (vec (timesL lv m))) := hZ (times_span S.o.even)
      rw [HTl.o] at HTm ⊢
      obtain ⟨tt, htt⟩ : ∃ t, timesL lv m = t := ⟨_, rfl⟩
      rw [htt] at HTm HTl HTe HTs
      clear htt
      have hBz := HB.o.size
      have HWz : Hid (ws.heap.size ≤ w8.heap.size) := hZ (Nat.le_trans HRB.o (Nat.le_of_lt (HY.o.own.lt R rfl).2))
      go_wp2_with (at_builtin; refine wpList_app1 (W0 := w8) (B := ws.heap.size) elemIs rfl _ _ rfl [.slice at9 n ct9] 22 (.slice (some ⟨R, 0, none⟩) m.length cR) m.length (l2.map (yV n)) rfl rfl rfl (by simp [Value.oneCell']) (by have h9 := HY.o.own; rw [HM2.o.2.2.2] at h9; exact h9) ((Below.refl _ _).mono HWz.o) HWz.o (by have := HRows.o; omega) (by omega) ?_)
      intro g9 cap9 w9 ho9 hb9 hon9 hc9 hgg
      obtain ⟨w9, rfl⟩ : ∃ w' : World, w' = w9 := ⟨_, rfl⟩
      have HYy : Hid (MatAt w9 (.slice (some ⟨g9, 0, none⟩) (m.length + 1) cap9) (M3 ++ [tt])) := hZ (by have h9 := YMt.snoc_mat (g := g9) (c := cap9) (l := l2) (by have h7 := HY.o; rw [← HM2.o.2.2.2] at h7; exact h7) HTm.o HTl.o (by rw [HM2.o.2.2.2]; exact z0) hon9.o (by have h8 := ho9.o; rw [HM2.o.2.2.2]; exact h8); rw [HM2.o.2.2.2] at h9; exact h9)
      skip
      clear hBz hgg hc9
      have HB9 : Hid (Below w0.heap.size w0 w9) := hZ (below_only HB.o hon9.o (fun b e => by simp only [Value.ownBlock, Option.some.injEq] at e; subst e; exact Nat.le_trans HBws.o HRB.o) HB.o.size)
      have MH9 : Hid (MatAt w9 ua H1) := hZ (MHs.o.blw (below_only ((HBws2.o)) hon9.o (fun b e => by simp only [Value.ownBlock, Option.some.injEq] at e; subst e; exact HRB.o) HBws2.o.size))
      clear HB MH HY HTm hb9 ho9 hon9 HM HU
      have HB := HB9
      have MH := MH9
      clear HB9 MH9
      go_wp2_with fail
      have HZ2 : Hid (checkZ (M3 ++ [tt]) = 0) := hZ (uniq_chk HM3.o.1 HM3.o.2.1 (by rw [HM3.o.2.2]; exact HRows.o) HTl.o HTe.o Hc5.o)
      have HC2 : Hid (colsOf (M3 ++ [tt]) = n) := hZ (cols_eq (fun r hr => by rcases List.mem_append.1 hr with h9 | h9; exact HM3.o.1 r h9; rw [List.mem_singleton.1 h9]; exact HTl.o) (by simp))
      refine (hermite_any w9 _ (M3 ++ [tt]) HYy.o).mono ?_
      rintro e w10 ⟨hB, ⟨hz, -⟩ | ⟨-, H2, k1, k2, k4, k3⟩⟩
      ·exact absurd HZ2.o hz
      have hEq : H2 = H1 := map_vec_inj (n := n) (fun r hr => by rw [k2 r hr, HC2.o]) (fun r hr => by rw [K1.o.2.1 r hr, Hn.o]) ((k1.same (fun v => ((span_snoc ((HSp3.o _).2 HTs.o) v).trans (HSp3.o v)).symm)).uniq K1.o.1)
      subst hEq
      obtain ⟨ug, rfl, hu⟩ := k3.fit (fit_top HT1.o)
      have MG' := hZ hu
      clear k1 k2 k3 k4 hu
      replace MH := hZ (MH.o.blw hB)
      replace HYy := hZ (HYy.o.blw hB)
      replace HB := bT HB hB
      clear hB
      have MG := MG'
      clear MG'
      go_wp2_with fail
      refine (same_any _ _ _ _ w10 MG.o MH.o).mono ?_
      rintro e w11 ⟨rfl, hB⟩
      rw [decide_eq_true rfl]
      replace MH := hZ (MH.o.blw hB)
      replace HYy := hZ (HYy.o.blw hB)
      replace MG := hZ (MG.o.blw hB)
      replace HB := bT HB hB
      clear hB
      go_wp2_with fail
      refine (lives_any w11).mono ?_
      rintro e w12 ⟨rfl, hB⟩
      replace MH := hZ (MH.o.blw hB)
      replace HYy := hZ (HYy.o.blw hB)
      replace MG := hZ (MG.o.blw hB)
      replace HB := bT HB hB
      clear hB
      go_wp2_with fail
      go_ret
      exact ⟨rfl, HB.o⟩
end Go.Proofs.Ytlmbebbdamgfpaa
namespace Go.Proofs.Ytlmbebbdamgfpaa.latticeUnique
open Go.ChangeShapes Go.WideShapes Go.ChangeAt Go.RowKit

theorem own : ownKnob Try.prog.godebug = none := by kernel_rfl
theorem laidOut : laidOutB Try.prog = true := by kernel_rfl

/-- a slice of integers that came in, as the walk reads it -/
theorem intsAt {W : World} {a : Option Addr} {len cap : Nat} {zs : List Int} (h : (a = none ∧ len = 0 ∧ cap = 0 ∧ zs = []) ∨
 ∃ x, a = some x ∧ len ≤ cap ∧ cap ≤ maxLen ∧ zs.length = cap ∧ (∀ i, i < zs.length → W.cell? (x.add i) = some (.int .i64 (zs.getD i 0))) ∧ ∀ n ∈ zs, (Lit.int .i64 n).wf = true) : IntsAt W (.slice a len cap) zs len := by
 rcases h with ⟨rfl, rfl, rfl, rfl⟩ | ⟨x, rfl, h1, h2, h3, hc, hw⟩
 ·exact .inl ⟨_, _, rfl, rfl, by omega⟩
 ·have hcap : cap ≤ 9223372036854775807 := by unfold maxLen at h2; omega
  by_cases hz : len = 0
  ·subst hz; exact .inl ⟨_, _, rfl, rfl, hcap⟩
  ·obtain ⟨b, off, rfl, hc'⟩ := ints_at hc (by omega)
   refine .inr ⟨b, off, cap, rfl, World.block_lt_of_cell? W _ (hc' 0 (by omega)), h1, hcap, fun j hj => ?_, fun j hj => ?_⟩
   ·rw [hc' j (by omega), List.getD_eq_getElem?_getD]
   ·have hj' : j < zs.length := by omega
    have := hw (zs[j]) (List.getElem_mem hj')
    rw [List.getElem?_eq_getElem hj']
    exact bounds_i64 this

set_option maxRecDepth 100000 in
theorem lifted (os : Os) (started : os.Started) (H : Type) (enc : TypeId × Value → H) :
 ReturnsInHanded {} Try.checked os 6 .any (Rows.latticeUniqueSpec.pre6 enc Try.prog Try.f6 Rows.latticeUniqueRow.domain false) (Rows.latticeUniqueSpec.post enc Try.prog Try.f6 false true false false) := by
 refine returnsInHanded_of_change (C := Try.checked) own started (by kernel_rfl) Try.func6
  (ChangeSpec.witness6 (enc := enc) (C := Try.checked) false ⟨#[], #[.slice none 0 0, .slice none 0 0, .int .i64 0, .int .i64 0, .int .i64 0], []⟩ 8 (by kernel_rfl) (by kernel_rfl) (by kernel_rfl) (by kernel_rfl)) ?_
 intro W base args ds gs before hval0 hW hcnd _
 have hval : ∀ (j : Nat) t v, Try.f6.params[j]? = some t → args[j]? = some v → Value.okWide Try.prog W .any base t v := hval0
 have hW' := hW
 obtain ⟨p, q, hA0, hV, rfl, hfz, hnd⟩ := hW
 have hA : DataW.TrodAll enc Try.prog W 0 (fun _ => true) true Try.f6.params.toList args.toList ds p := hA0
 rw [Try.params6] at hA hval
 obtain ⟨v0, vs0, d0, ds0, p0, q0, hargs, rfl, rfl, h0, r0⟩ := trodAll_cons hA
 obtain ⟨v1, vs1, d1, ds1, p1, q1, rfl, rfl, rfl, h1, r1⟩ := trodAll_cons r0
 obtain ⟨v2, vs2, d2, ds2, p2, q2, rfl, rfl, rfl, h2, r2⟩ := trodAll_cons r1
 obtain ⟨v3, vs3, d3, ds3, p3, q3, rfl, rfl, rfl, h3, r3⟩ := trodAll_cons r2
 obtain ⟨v4, vs4, d4, ds4, p4, q4, rfl, rfl, rfl, h4, r4⟩ := trodAll_cons r3
 obtain ⟨rfl, rfl, rfl⟩ := trodAll_nil r4
 obtain rfl : args = #[v0, v1, v2, v3, v4] := by cases args; simp_all
 obtain ⟨rfl, rfl⟩ := trodVars_none hV
 obtain ⟨a0, len0, cap0, rfl⟩ := okWide_slice Try.underlying22 (hval 0 22 v0 rfl rfl)
 have k0 := h0
 have lt0 : ∀ x ∈ p0, x.block < W.heap.size := by obtain ⟨m, hm⟩ := k0; exact DataW.trod_lt m _ _ _ hm
 obtain ⟨z0, w0⟩ : ∃ zs, IntsAt W (.slice a0 len0 cap0) zs len0 := by
  obtain ⟨fuel, hf⟩ := h0
  rcases open_ints Try.underlying22 Try.underlying3 (by kernel_rfl) hf with ⟨hcs, _⟩ | ⟨x, l, c, zs, hcs, _, hl, hm, hz, _, hcell, hwz⟩
  ·simp [Value.cells] at hcs
   obtain ⟨rfl, rfl, rfl⟩ := hcs
   exact ⟨[], intsAt (.inl ⟨rfl, rfl, rfl, rfl⟩)⟩
  ·simp [Value.cells] at hcs
   obtain ⟨rfl, rfl, rfl⟩ := hcs
   exact ⟨zs, intsAt (.inr ⟨_, rfl, hl, hm, by simpa using hz, hcell, hwz⟩)⟩
 obtain ⟨a1, len1, cap1, rfl⟩ := okWide_slice Try.underlying22 (hval 1 22 v1 rfl rfl)
 have k1 := h1
 have lt1 : ∀ x ∈ p1, x.block < W.heap.size := by obtain ⟨m, hm⟩ := k1; exact DataW.trod_lt m _ _ _ hm
 obtain ⟨z1, w1⟩ : ∃ zs, IntsAt W (.slice a1 len1 cap1) zs len1 := by
  obtain ⟨fuel, hf⟩ := h1
  rcases open_ints Try.underlying22 Try.underlying3 (by kernel_rfl) hf with ⟨hcs, _⟩ | ⟨x, l, c, zs, hcs, _, hl, hm, hz, _, hcell, hwz⟩
  ·simp [Value.cells] at hcs
   obtain ⟨rfl, rfl, rfl⟩ := hcs
   exact ⟨[], intsAt (.inl ⟨rfl, rfl, rfl, rfl⟩)⟩
  ·simp [Value.cells] at hcs
   obtain ⟨rfl, rfl, rfl⟩ := hcs
   exact ⟨zs, intsAt (.inr ⟨_, rfl, hl, hm, by simpa using hz, hcell, hwz⟩)⟩
 obtain ⟨a2, rfl, rfl, rfl, w2⟩ := open_int Try.underlying3 (hval 2 3 v2 rfl rfl) h2
 have b2 : -9223372036854775808 ≤ a2 ∧ a2 ≤ 9223372036854775807 := bounds_i64 w2
 obtain ⟨a3, rfl, rfl, rfl, w3⟩ := open_int Try.underlying3 (hval 3 3 v3 rfl rfl) h3
 have b3 : -9223372036854775808 ≤ a3 ∧ a3 ≤ 9223372036854775807 := bounds_i64 w3
 obtain ⟨a4, rfl, rfl, rfl, w4⟩ := open_int Try.underlying3 (hval 4 3 v4 rfl rfl) h4
 have b4 : -9223372036854775808 ≤ a4 ∧ a4 ≤ 9223372036854775807 := bounds_i64 w4
 clear hA0 hval0
 refine (latticeUnique_any _ z0 len0 _ z1 len1 a2 a3 a4 W w0 w1 b2.1 b2.2 b3.1 b3.2 b4.1 b4.2).mono fun e W' ⟨he, bel⟩ => ?_
 subst he
 exact ⟨_, rfl, _, _, _, [], _, [], hW', trodAll_mk1 (shut_bool Try.underlying4 _), (trodAll_cons_mk (Below.trod laidOut (by kernel_rfl) (of_decide_eq_true (by kernel_rfl)) k0 bel lt0) (trodAll_cons_mk (Below.trod laidOut (by kernel_rfl) (of_decide_eq_true (by kernel_rfl)) k1 bel lt1) (trodAll_cons_mk (shut_int Try.underlying3 w2) (trodAll_cons_mk (shut_int Try.underlying3 w3) (trodAll_cons_mk (shut_int Try.underlying3 w4) trodAll_mk0))))), rfl, bel.frame _, fun h => by cases h⟩

theorem said : Rows.LatticeUniqueSaid :=
 OpenClaim.holds_of_wide 6 Try.f6 rfl rfl rfl rfl rfl rfl rfl ⟨rfl, rfl, rfl, rfl, rfl⟩ rfl rfl rfl rfl rfl (by kernel_rfl) Try.func6 (by kernel_rfl)
  (of_decide_eq_true (by kernel_rfl)) (by unfold Func.isWrapper; first | (rw [if_pos (by decide +kernel)]; kernel_rfl) | (rw [if_neg (by decide +kernel)]; exact ⟨rfl, rfl⟩))
  (fun os started H enc _ => lifted os started H enc)
#print axioms said
end Go.Proofs.Ytlmbebbdamgfpaa.latticeUnique
