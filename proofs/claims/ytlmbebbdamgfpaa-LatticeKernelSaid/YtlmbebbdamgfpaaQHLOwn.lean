/- append to a row of one's own: no word lies in its block. -/
import Derived.Test.YtlmbebbdamgfpaaQHLDet
import Derived.Test.YtlmbebbdamgfpaaQHLElim
import Derived.Test.YtlmbebbdamgfpaaQHLSmall
set_option linter.unusedVariables false
set_option linter.unusedSimpArgs false
set_option maxHeartbeats 8000000
set_option maxRecDepth 100000
namespace Go.Proofs.Ytlmbebbdamgfpaa
open Go.RowKit
abbrev Ln := Nat × Nat × Int
def lnC (n : Nat) (x : Ln) : List Value := [.slice (some ⟨x.1, 0, none⟩) n x.2.1, .int .i64 x.2.2]
structure qB0 (w : World) (B : Nat) (l : List Ln) (n : Nat) (M : List (List Int)) : Prop where
 blk : qAE w B 103 (l.flatMap (lnC n))
 len : M.length = l.length
 row : ∀ i (h : i < l.length), qAF w l[i].1 (M[i]'(by omega)) /\ (M[i]'(by omega)).length = n
 nodup : ∀ i j (h : i < l.length) (h' : j < l.length), i ≠ j -> l[i].1 ≠ l[j].1
 cap : ∀ i (h : i < l.length), n <= l[i].2.1 /\ l[i].2.1 <= 9223372036854775807
 apart : ∀ i (h : i < l.length), l[i].1 ≠ B
section
variable {w w' : World} {B n : Nat} {l : List Ln} {M : List (List Int)}
theorem qB0.blw (h : qB0 w B l n M) (hb : Below w.heap.size w w') : qB0 w' B l n M :=
 ⟨h.blk.blw hb, h.len, fun i hi => ⟨(h.row i hi).1.blw hb, (h.row i hi).2⟩, h.nodup, h.cap, h.apart⟩
instance : Mv w w' (qB0 w B l n M) (qB0 w' B l n M) := ⟨fun hb h => qB0.blw h hb⟩
theorem qB0.lt (h : qB0 w B l n M) : B < w.heap.size := h.blk.lt
theorem qI2 (n : Nat) : ∀ (l : List Ln) (i : Nat) (h : i < l.length), (l.flatMap (lnC n))[i * 2]? = some (.slice (some ⟨l[i].1, 0, none⟩) n l[i].2.1) /\ (l.flatMap (lnC n))[i * 2 + 1]? = some (.int .i64 l[i].2.2)
 | x :: r, 0, _ => by simp [lnC]
 | x :: r, i + 1, h => by
  have := qI2 n r i (by simpa using h); rw [show (i + 1) * 2 = i * 2 + 2 by omega, show i * 2 + 2 + 1 = i * 2 + 1 + 2 by omega]; simpa [lnC] using this
theorem qEp (n : Nat) : ∀ (l : List Ln), (l.flatMap (lnC n)).length = l.length * 2
 | [] => rfl
 | x :: r => by rw [List.flatMap_cons, List.length_append, qEp n r]; simp [lnC]; omega
theorem qB0.get (h : qB0 w B l n M) (i : Nat) (hi : i < l.length) : w.cell? ⟨B, i * 2, none⟩ = some (.slice (some ⟨l[i].1, 0, none⟩) n l[i].2.1) /\ w.cell? ⟨B, i * 2 + 1, none⟩ = some (.int .i64 l[i].2.2) :=
 ⟨(h.blk.cell _).trans (qI2 n l i hi).1, (h.blk.cell _).trans (qI2 n l i hi).2⟩
theorem qB0.frozen (h : qB0 w B l n M) (o : Nat) : w.frozen? ⟨B, o, none⟩ = false := h.blk.frozen o
theorem qGb {n : Nat} {l : List Ln} : ∀ u ∈ l.flatMap (lnC n), ∀ x, u ≠ .int .u32 x := by
 intro u hu x; obtain ⟨y, _, hy⟩ := List.mem_flatMap.1 hu; rcases List.mem_cons.1 hy with rfl | hy
 ·intro e; cases e
 ·rw [List.mem_singleton.1 hy]; intro e; cases e
theorem qB0.noInt (h : qB0 w B l n M) : qAg w B := h.blk.noInt qGb
theorem qB0.turn {i : Nat} (h : qB0 w B l n M) (hi : i < l.length) {zs : List Int} (hz : zs.length = n) (hr : qAF w' l[i].1 zs) (ho : qAc (fun b => b = l[i].1) w w') : qB0 w' B l n (M.set i zs) := by
 have hN : ∀ b, b = l[i].1 -> qAg w b := fun b e => e ▸ (h.row i hi).1.noInt; refine ⟨h.blk.only ho (fun e => h.apart i hi e.symm), by rw [List.length_set]; exact h.len, fun k hk => ?_, h.nodup, h.cap, h.apart⟩; by_cases e : k = i
 ·subst e
  rw [List.getElem_set_self]; exact ⟨hr, hz⟩
 ·rw [List.getElem_set_ne (Ne.symm e)]
  exact ⟨(h.row k hk).1.only ho hN (fun e2 => h.nodup k i hk hi e e2), (h.row k hk).2⟩
theorem qB0.only {S : Nat -> Prop} (h : qB0 w B l n M) (ho : qAc S w w') (hS : ∀ b, S b -> qAg w b) (hB : ¬ S B) (hr : ∀ i (hi : i < l.length), ¬ S l[i].1) : qB0 w' B l n M :=
 ⟨h.blk.only ho hB, h.len, fun i hi => ⟨(h.row i hi).1.only ho hS (hr i hi), (h.row i hi).2⟩, h.nodup, h.cap, h.apart⟩
theorem qG4 (n : Nat) : ∀ (l : List Ln) (i : Nat) (x : Ln), i < l.length -> (l.set i x).flatMap (lnC n) = ((l.flatMap (lnC n)).set (i * 2) (.slice (some ⟨x.1, 0, none⟩) n x.2.1)).set (i * 2 + 1) (.int .i64 x.2.2)
 | y :: r, 0, x, _ => by simp [lnC]
 | y :: r, i + 1, x, h => by
  have := qG4 n r i x (by simpa using h); rw [show (i + 1) * 2 = i * 2 + 2 by omega, show i * 2 + 2 + 1 = i * 2 + 1 + 2 by omega]; simp [lnC, this]
theorem qB0.swap (h : qB0 w B l n M) (i k : Nat) (hi : i < l.length) (hk : k < l.length) :
 qB0 ((((w.setCell ⟨B, i * 2, none⟩ (.slice (some ⟨l[k].1, 0, none⟩) n l[k].2.1)).setCell ⟨B, i * 2 + 1, none⟩ (.int .i64 l[k].2.2)).setCell ⟨B, k * 2, none⟩ (.slice (some ⟨l[i].1, 0, none⟩) n l[i].2.1)).setCell ⟨B, k * 2 + 1, none⟩ (.int .i64 l[i].2.2)) B (qAu l i k hi hk) n (qAu M i k (by rw [h.len]; exact hi) (by rw [h.len]; exact hk)) := by
 have hb := (((h.blk.set (i * 2) (.slice (some ⟨l[k].1, 0, none⟩) n l[k].2.1)).set (i * 2 + 1) (.int .i64 l[k].2.2)).set (k * 2) (.slice (some ⟨l[i].1, 0, none⟩) n l[i].2.1)).set (k * 2 + 1) (.int .i64 l[i].2.2); have e : qAu l i k hi hk = (l.set i l[k]).set k l[i] := rfl; have e2 : (qAu l i k hi hk).flatMap (lnC n) = ((((l.flatMap (lnC n)).set (i * 2) (.slice (some ⟨l[k].1, 0, none⟩) n l[k].2.1)).set (i * 2 + 1) (.int .i64 l[k].2.2)).set (k * 2) (.slice (some ⟨l[i].1, 0, none⟩) n l[i].2.1)).set (k * 2 + 1) (.int .i64 l[i].2.2) := by
  rw [e, qG4 n _ k _ (by simpa using hk), qG4 n l i _ hi]
 have hof : qAc (fun b => b = B) w ((((w.setCell ⟨B, i * 2, none⟩ (.slice (some ⟨l[k].1, 0, none⟩) n l[k].2.1)).setCell ⟨B, i * 2 + 1, none⟩ (.int .i64 l[k].2.2)).setCell ⟨B, k * 2, none⟩ (.slice (some ⟨l[i].1, 0, none⟩) n l[i].2.1)).setCell ⟨B, k * 2 + 1, none⟩ (.int .i64 l[i].2.2)) :=
  ((((qAc.refl (fun b => b = B) w).set (p := ⟨B, i * 2, none⟩) rfl _).set (p := ⟨B, i * 2 + 1, none⟩) rfl _).set (p := ⟨B, k * 2, none⟩) rfl _).set (p := ⟨B, k * 2 + 1, none⟩) rfl _
 have hN : ∀ b, b = B -> qAg w b := fun b e => e ▸ h.noInt; have hl : (qAu l i k hi hk).length = l.length := qAb; have hsw : ∀ q (hq : q < (qAu l i k hi hk).length), ∃ p, ∃ hp : p < l.length, (qAu l i k hi hk)[q] = l[p] /\ (qAu M i k (by rw [h.len]; exact hi) (by rw [h.len]; exact hk))[q]'(by rw [qAb, h.len, <- hl]; exact hq) = M[p]'(by rw [h.len]; exact hp) /\ p = if q = k then i else if q = i then k else q := fun q hq => by
  rw [hl] at hq; rw [qAq q hq, qAq q (by rw [h.len]; exact hq)]; by_cases h1 : q = k
  ·exact ⟨i, hi, by rw [if_pos h1], by rw [if_pos h1], by rw [if_pos h1]⟩
  ·by_cases h2 : q = i
   ·exact ⟨k, hk, by rw [if_neg h1, if_pos h2], by rw [if_neg h1, if_pos h2], by rw [if_neg h1, if_pos h2]⟩
   ·exact ⟨q, hq, by rw [if_neg h1, if_neg h2], by rw [if_neg h1, if_neg h2], by rw [if_neg h1, if_neg h2]⟩
 refine ⟨by rw [e2]; exact hb, by rw [qAb, qAb]; exact h.len, fun q hq => ?_, fun a b ha hb2 hab => ?_, fun q hq => ?_, fun q hq => ?_⟩
 ·obtain ⟨p, hp, e1, e3, -⟩ := hsw q hq
  rw [e1, e3]; exact ⟨(h.row p hp).1.only hof hN (h.apart p hp), (h.row p hp).2⟩
 ·obtain ⟨p, hp, e1, -, e3⟩ := hsw a ha
  obtain ⟨p', hp', e4, -, e5⟩ := hsw b hb2; rw [e1, e4]; refine h.nodup p p' hp hp' ?_; rw [e3, e5]
  split <;> split <;> (try split) <;> (try split) <;> omega
 ·obtain ⟨p, hp, e1, -, -⟩ := hsw q hq
  rw [e1]; exact h.cap p hp
 ·obtain ⟨p, hp, e1, -, -⟩ := hsw q hq
  rw [e1]; exact h.apart p hp
end
open Go.RowKit
theorem WOf.cells {w : World} {a : Option Addr} {n c : Nat} {zs : List Int} (h : WOf w (.slice a n c) zs) (h0 : 0 < zs.length) :
 ∃ b cs, a = some ⟨b, 0, none⟩ /\ n = zs.length /\ cs.length = zs.length * 2 /\ (∀ j u, cs[j]? = some u -> w.cell? ⟨b, j, none⟩ = some u) /\ ∀ tl : List Value, (∀ u ∈ tl, u = .bool false \/ u = .slice none 0 0) -> WCs w (cs ++ tl) zs := by
 obtain ⟨b, cap, s, a', n', c', hv, -, -, -, -⟩ := h.at_ 0 h0; injection hv with e1 e2 e3; subst e1 e3; refine ⟨b, (List.range zs.length).flatMap (fun j => [(w.cell? ⟨b, j * 2, none⟩).getD (.bool false), (w.cell? ⟨b, j * 2 + 1, none⟩).getD (.bool false)]), rfl, e2, flen _ _ _, ?_, ?_⟩
 ·intro j u hu
  have hj : j < zs.length * 2 := by
   rcases Nat.lt_or_ge j (zs.length * 2) with h | h
   ·exact h
   ·rw [List.getElem?_eq_none (by rw [flen]; exact h)] at hu; cases hu
  obtain ⟨b2, cap2, s, a', n', c', hv, -, h1, h2, -⟩ := h.at_ (j / 2) (by omega); injection hv with f1 f2 f3; injection f1 with f1; injection f1 with f1; subst f1; have h3 := flat2 (fun j => (w.cell? ⟨b, j * 2, none⟩).getD (.bool false)) (fun j => (w.cell? ⟨b, j * 2 + 1, none⟩).getD (.bool false)) zs.length (j / 2) (by omega); rcases Nat.mod_two_eq_zero_or_one j with e | e
  ·have e2 : j / 2 * 2 = j := by omega
   rw [e2] at h1 h3; rw [h3.1] at hu; injection hu with hu; rw [<- hu]; simp only [e2] at *; rw [h1]; rfl
  ·have e2 : j / 2 * 2 + 1 = j := by omega
   rw [e2] at h2 h3; rw [h3.2] at hu; injection hu with hu; rw [<- hu]; simp only [e2] at *; rw [h2]; rfl
 ·intro tl htl
  have key : ∀ j (hj : j < zs.length), ∃ a n c, ((List.range zs.length).flatMap (fun j => [(w.cell? ⟨b, j * 2, none⟩).getD (.bool false), (w.cell? ⟨b, j * 2 + 1, none⟩).getD (.bool false)]))[j * 2]? = some (.bool (decide (zs[j] < 0))) /\ ((List.range zs.length).flatMap (fun j => [(w.cell? ⟨b, j * 2, none⟩).getD (.bool false), (w.cell? ⟨b, j * 2 + 1, none⟩).getD (.bool false)]))[j * 2 + 1]? = some (.slice a n c) /\ qAz w (.agg #[.bool (decide (zs[j] < 0)), .slice a n c]) zs[j] := by
   intro j hj; obtain ⟨b2, cap2, s, a', n', c', hv, -, h1, h2, h3⟩ := h.at_ j hj; injection hv with f1 f2 f3; injection f1 with f1; injection f1 with f1; subst f1; have h4 := flat2 (fun j => (w.cell? ⟨b, j * 2, none⟩).getD (.bool false)) (fun j => (w.cell? ⟨b, j * 2 + 1, none⟩).getD (.bool false)) zs.length j hj; have hs : s = decide (zs[j] < 0) := by
    obtain ⟨vw, hv, hm⟩ := h3; injection hv with hv; have h9 := congrArg (fun x => x[0]?) hv; simp at h9; exact h9
   subst hs; refine ⟨a', n', c', ?_, ?_, h3⟩
   ·rw [h4.1, h1]; rfl
   ·rw [h4.2, h2]; rfl
  have hlen : ((List.range zs.length).flatMap (fun j => [(w.cell? ⟨b, j * 2, none⟩).getD (.bool false), (w.cell? ⟨b, j * 2 + 1, none⟩).getD (.bool false)])).length = zs.length * 2 := flen _ _ _; refine ⟨by rw [List.length_append, hlen]; omega, ?_, fun j hj => ?_⟩
  ·intro u hu x
   rcases List.mem_append.1 hu with hu | hu
   ·obtain ⟨i, hi, rfl⟩ := List.mem_iff_getElem.1 hu
    rw [hlen] at hi; obtain ⟨a1, a2, a3, k1, k2, -⟩ := key (i / 2) (by omega); intro e; rcases Nat.mod_two_eq_zero_or_one i with e2 | e2
    ·rw [show i / 2 * 2 = i by omega, List.getElem?_eq_getElem (by rw [hlen]; exact hi), e] at k1
     cases k1
    ·rw [show i / 2 * 2 + 1 = i by omega, List.getElem?_eq_getElem (by rw [hlen]; exact hi), e] at k2
     cases k2
   ·rcases htl u hu with rfl | rfl <;> intro e <;> cases e
  ·obtain ⟨a1, a2, a3, k1, k2, k3⟩ := key j hj
   exact ⟨a1, a2, a3, by rw [List.getElem?_append_left (by rw [hlen]; omega)]; exact k1, by rw [List.getElem?_append_left (by rw [hlen]; omega)]; exact k2, k3⟩
where
 flen (f g : Nat -> Value) (n : Nat) : ((List.range n).flatMap (fun j => [f j, g j])).length = n * 2 := by
  have key : ∀ L : List Nat, (L.flatMap (fun j => [f j, g j])).length = L.length * 2 := by
   intro L
   induction L with
   | nil => rfl
   | cons x L ih => rw [List.flatMap_cons, List.length_append, ih]; simp; omega
  rw [key, List.length_range]
 flat2 (f g : Nat -> Value) (n j : Nat) (hj : j < n) : ((List.range n).flatMap (fun j => [f j, g j]))[j * 2]? = some (f j) /\ ((List.range n).flatMap (fun j => [f j, g j]))[j * 2 + 1]? = some (g j) := by
  have key : ∀ (L : List Nat) (j : Nat) (h : j < L.length), (L.flatMap (fun j => [f j, g j]))[j * 2]? = some (f L[j]) /\ (L.flatMap (fun j => [f j, g j]))[j * 2 + 1]? = some (g L[j]) := by
   intro L
   induction L with
   | nil => intro j h; simp at h
   | cons x L ih =>
    intro j h; cases j with
    | zero => simp
    | succ j =>
     have := ih j (by simpa using h); rw [show (j + 1) * 2 = j * 2 + 2 by omega, show j * 2 + 2 + 1 = j * 2 + 1 + 2 by omega]; simpa using this
  have := key (List.range n) j (by simpa using hj); simpa using this
def qIn (l : List Rw) : List Ln := l.mapIdx (fun i x => (x.1, x.2, (i : Int)))
theorem qBC (l : List Rw) : (qIn l).length = l.length := by simp [qIn]
theorem qDB (l : List Rw) (i : Nat) (h : i < l.length) : (qIn l)[i]'(by rw [qBC]; exact h) = (l[i].1, l[i].2, (i : Int)) := by simp [qIn]
theorem qI1 (l : List Rw) (x : Rw) : qIn (l ++ [x]) = qIn l ++ [(x.1, x.2, (l.length : Int))] := by simp [qIn, List.mapIdx_append]
def lnP (n : Nat) (l : List Rw) (k : Nat) : List Value := (qIn l).flatMap (lnC n) ++ lnZ k
theorem qI0 {n k : Nat} {l : List Rw} : ∀ u ∈ lnP n l k, ∀ x, u ≠ .int .u32 x := by
 intro u hu x; rcases List.mem_append.1 hu with h | h
 ·exact qGb u h x
 ·obtain ⟨i, hi, rfl⟩ := List.mem_iff_getElem.1 h
  rw [qFm] at hi; have := qGa k i hi; rw [List.getElem?_eq_getElem (by rw [qFm]; exact hi)] at this; injection this with this; rw [this]; rcases Nat.mod_two_eq_zero_or_one i with e | e <;> rw [e] <;> intro e2 <;> cases e2
theorem qKX {n k g j : Nat} {l : List Rw} (c : Nat) (h : l.length = j) : ((lnP n l (k + 1)).set (j * 2) (.slice (some ⟨g, 0, none⟩) n c)).set (j * 2 + 1) (.int .i64 (j : Int)) = lnP n (l ++ [(g, c)]) k := by
 subst h; unfold lnP; have h1 : ((qIn l).flatMap (lnC n)).length = l.length * 2 := by rw [qEp, qBC]
 rw [List.set_append_right _ _ (by omega), List.set_append_right _ _ (by omega), h1, qCG, qI1, List.flatMap_append]; simp [lnC]
theorem qHG {n k j : Nat} {l : List Rw} (h : l.length = j) : (lnP n l (k + 1))[j * 2]? = some (.slice none 0 0) /\ (lnP n l (k + 1))[j * 2 + 1]? = some (.int .i64 0) := by
 subst h; unfold lnP; have h1 : ((qIn l).flatMap (lnC n)).length = l.length * 2 := by rw [qEp, qBC]
 rw [List.getElem?_append_right (by omega), List.getElem?_append_right (by omega), h1, qCG]; simp
theorem qB0.of_rows {w : World} {B n : Nat} {l : List Rw} {M : List (List Int)} (hb : qAE w B 103 (lnP n l 0)) (hr : qAC w l n M) (ha : ∀ i (h : i < l.length), l[i].1 ≠ B) : qB0 w B (qIn l) n M := by
 refine ⟨by simpa [lnP, lnZ] using hb, by rw [qBC]; exact hr.len, fun i hi => ?_, fun i j hi hj hij => ?_, fun i hi => ?_, fun i hi => ?_⟩
 ·rw [qBC] at hi
  rw [qDB l i hi]; exact hr.row i hi
 ·rw [qBC] at hi hj
  rw [qDB l i hi, qDB l j hj]; exact hr.nodup i j hi hj hij
 ·rw [qBC] at hi
  rw [qDB l i hi]; exact hr.cap i hi
 ·rw [qBC] at hi
  rw [qDB l i hi]; exact ha i hi
theorem qGc (v : Value) (M : List (List Int)) (n : Nat) (w0 : World) (h : qEI w0 v M) (hm : M.length <= 1000) (hn : ∀ r ∈ M, r.length = n) (hn0 : 0 < n) (hn2 : n <= 1000) :
 Calls Try.prog 51 #[v] w0 fun e w' => ∃ B l, e = .returned (.slice (some ⟨B, 0, none⟩) M.length M.length) /\ qB0 w' B l n M /\ l.length = M.length /\ w0.heap.size <= B /\ (∀ i (h : i < l.length), w0.heap.size <= l[i].1) /\ Below w0.heap.size w0 w' := by
 have H := hZ h; obtain ⟨av, cv, rfl, q1, q2⟩ := qAh.form h; have Hn := hZ hn; have HB := hZ (Below.refl w0.heap.size w0); clear h hn
 go_enter Try.func51, Try.ntmps51
 go_wp2_with (at_make; refine qCe rfl rfl (M.length) rfl rfl rfl rfl (by omega) ?_)
 intro w1 h_9 hB hlt9; obtain ⟨B, hb⟩ := eX w0.heap.size; rw [hb] at h_9 ⊢; have Ob' := hZ h_9; have hge_B : Hid (w0.heap.size <= B) := hZ (Nat.le_of_eq hb); have hlt_B : Hid (B < w1.heap.size) := hZ (by rw [<- hb]; exact hlt9); clear h_9 hb hlt9; replace HB := bT HB hB; clear hB; have Ob := Ob'; clear Ob'
 go_wp2_with fail
 have HgR : Hid (w0.heap.size <= B) := hZ hge_B.o; clear hge_B hlt_B
 go_loopw [11] (fun i wr => ∃ (j : Nat) (l : List Rw), j <= M.length /\ i = .int .i64 j /\ Hid (l.length = j /\ (∀ k (h : k < l.length), B < l[k].1)) /\ Hid (qAE wr B 103 (lnP n l (M.length - j))) /\ Hid (qAC wr l n (M.take j)) /\ Hid (Below w0.heap.size w0 wr)) (fun i _ => M.length - (intOf i).toNat)
 case atStart => exact ⟨0, [], by omega, rfl, hZ ⟨rfl, fun k h => by simp at h⟩, hZ (by simpa [lnP, qIn] using Ob.o), hZ (qAC.nil _ _), HB⟩
 case round =>
  clear HB Ob; obtain ⟨j, l, hj, rfl, HL, Ob, RI, HB⟩ := hrel; obtain ⟨w1, rfl⟩ := eY wr; by_cases hlt : j < M.length
  ·skip
   obtain ⟨b, cap, a, c, hv, hb, n1, HI, g1, g2⟩ := H.o.at_ j hlt; injection hv with f1 f2 f3; subst f1; clear f2 f3; have Hr : Hid (M[j].length = n) := hZ (Hn.o _ (List.getElem_mem hlt)); have HM : Hid (M.take (j + 1) = M.take j ++ [M[j]]) := hZ (by rw [List.take_succ_eq_append_getElem hlt]); replace n1 := (HB.o.cell (p := ⟨b, j, none⟩) hb).trans n1; replace HI := hZ (HI.blw HB.o); generalize M[j] = r at *; obtain ⟨br, cs, rfl, -, hcl, hcs, hwc⟩ := HI.o.cells (by have := Hr.o; omega); have HCS := hZ hcs; have HWC := hZ hwc; rw [Hr.o] at n1 hcl; have Hcl := hZ hcl; clear hcl HI hcs hwc g1; have i1 : (0 : Int) <= (j : Int) := by omega
   have i2 : (j : Int) < (M.length : Int) := by omega
   go_wp2_with (at_builtin; refine qGL rfl _ _ rfl rfl br n _ cs rfl Hcl.o HCS.o hn0 (by omega) ?_)
   intro cap9 tl hc1 hc2 htl; obtain ⟨w2, hw⟩ := eX ((w1.alloc (.cells (cs ++ tl).toArray 58)).drew); have hB : Below w1.heap.size w1 w2 := by rw [<- hw]; exact ((Below.refl _ _).alloc (Nat.le_refl _) _).drew
   obtain ⟨g, hg⟩ := eX w1.heap.size; have Rr' : Hid (qAF w2 g r) := hZ ⟨cs ++ tl, by rw [<- hw, <- hg]; exact (qAE.new w1 _ _).drew, (HWC.o tl htl).below hB⟩; have HLg : Hid ((∀ k (h : k < l.length), l[k].1 < g) /\ B < g) := hZ ⟨fun k h => by rw [<- hg]; exact RI.o.lt k h, by rw [<- hg]; exact Ob.o.lt⟩; rw [hw, hg]; clear hw hg HCS HWC Hcl htl; replace Ob := Ob.b hB; replace RI := RI.b hB; replace HB := bT HB hB; clear hB; have Rr := Rr'; clear Rr'; have Hk : Hid (M.length - j = (M.length - (j + 1)) + 1) := hZ (by omega); rw [Hk.o] at Ob; have e0 : w2.cell? ⟨B, j * 2, none⟩ = some (.slice none 0 0) := (Ob.o.cell _).trans (qHG HL.o.1).1; have e1 : w2.cell? ⟨B, j * 2 + 1, none⟩ = some (.int .i64 0) := (Ob.o.cell _).trans (qHG HL.o.1).2; have e20 := Ob.o.frozen (j * 2); have e21 := Ob.o.frozen (j * 2 + 1); obtain ⟨w3, hw⟩ := eX (((w2.setCell ⟨B, j * 2, none⟩ (.slice (some ⟨g, 0, none⟩) n cap9)).setCell ⟨B, j * 2 + 1, none⟩ (.int .i64 (j : Int)))); have ho : qAc (fun b => b = B) w2 w3 := by rw [<- hw]; exact (((qAc.refl (fun b => b = B) _).set (p := ⟨B, j * 2, none⟩) rfl _).set (p := ⟨B, j * 2 + 1, none⟩) rfl _)
   have hN : ∀ b, b = B -> qAg w2 b := fun b e => e ▸ Ob.o.noInt qI0; replace Ob := hZ ((by have h1 := (Ob.o.set (j * 2) (.slice (some ⟨g, 0, none⟩) n cap9)).set (j * 2 + 1) (.int .i64 (j : Int)); rw [hw, qKX cap9 HL.o.1] at h1; exact h1)); replace RI := hZ (RI.o.only ho hN (fun i hi => by intro (e : _ = B); have := HL.o.2 i hi; omega)); replace Rr := hZ (Rr.o.only ho hN (by intro (e : _ = B); have := HLg.o.2; omega)); replace HB := hZ (qAj HB.o ho (fun b e => by have := HgR.o; omega) HB.o.size); clear ho hN
   go_wp2_with fail
   go_roundw
   case rel => exact ⟨j + 1, l ++ [(g, cap9)], by omega, by go_num, hZ ⟨by have := HL.o.1; simp; omega, qB5 (P := fun (x : Rw) => B < x.1) HL.o.2 HLg.o.2⟩, Ob, hZ (by rw [HM.o]; exact RI.o.snoc Rr.o Hr.o (fun i hi => by have := HLg.o.1 i hi; omega) hc1 hc2), HB⟩
   case measure => simp [intOf]; omega
  ·skip
   obtain rfl : j = M.length := by omega
   go_wp2_with fail
   go_ret; have h1 := Ob.o; rw [Nat.sub_self] at h1; have h2 := RI.o; rw [List.take_of_length_le (Nat.le_refl _)] at h2; exact ⟨B, qIn l, rfl, qB0.of_rows h1 h2 (fun i hi => by have := HL.o.2 i hi; omega), by rw [qBC]; exact HL.o.1, HgR.o, fun i hi => by rw [qBC] at hi; rw [qDB l i hi]; have := HL.o.2 i hi; have := HgR.o; show _ <= l[i].1; omega, HB.o⟩
open Go.RowKit
def noU (u : Value) : Prop := ∀ x, u ≠ .int .u32 x
theorem qCU {w : World} {g : Nat} {cs : Array Value} {t : TypeId} {fz : Nat × Nat} (h : w.heap[g]? = some (.cells cs t fz)) (hc : ∀ u ∈ cs, noU u) : qAg w g := by
 intro o x he; unfold World.cell? at he; simp only [h] at he; simp only [Option.isSome_none, Bool.false_eq_true, if_false] at he; exact hc _ (Array.mem_of_getElem? he) x rfl
theorem qF6 {w : World} {g : Nat} {cs : Array Value} {t : TypeId} {fz : Nat × Nat} (h : w.heap[g]? = some (.cells cs t fz)) (hn : qAg w g) : ∀ u ∈ cs, noU u := by
 intro u hu x e; obtain ⟨i, hi, rfl⟩ := Array.mem_iff_getElem.1 hu; refine hn i x ?_; unfold World.cell?; simp only [h]; simp [hi, e]
def qCt (w : World) (base : Nat) (e : TypeId) (size : Nat) (v : Value) (n : Nat) (xs : List Value) : Prop := w.ownsRow base e size v n xs /\ ∀ g, v.ownBlock = some g -> qAg w g
theorem qCt.nil (w : World) (base : Nat) (e : TypeId) (size : Nat) : qCt w base e size (.slice none 0 0) 0 [] := ⟨World.ownsRow_nil w base e size, fun g h => by simp [Value.ownBlock] at h⟩
theorem qCt.lt {w : World} {base : Nat} {e : TypeId} {size : Nat} {v : Value} {n : Nat} {xs : List Value} (h : qCt w base e size v n xs) : ∀ k, v.ownBlock = some k -> base <= k /\ k < w.heap.size := h.1.lt
theorem qCt.blw {w w' : World} {base : Nat} {e : TypeId} {size : Nat} {v : Value} {n : Nat} {xs : List Value} (h : qCt w base e size v n xs) (hb : Below w.heap.size w w') : qCt w' base e size v n xs :=
 ⟨h.1.kept ⟨hb.os, hb.tape, hb.output, hb.size, fun k hk _ => hb.block k hk⟩ (row := none) (by
  cases hv : v.ownBlock with
  | none => exact .inl rfl
  | some g => exact .inr (by simp)), fun g hg => (h.2 g hg).below hb (h.1.lt g hg).2⟩
instance {w w' : World} {base : Nat} {e : TypeId} {size : Nat} {v : Value} {n : Nat} {xs : List Value} : Mv w w' (qCt w base e size v n xs) (qCt w' base e size v n xs) := ⟨fun hb h => qCt.blw h hb⟩
theorem qCt.only {w w' : World} {S : Nat -> Prop} {base : Nat} {e : TypeId} {size : Nat} {v : Value} {n : Nat} {xs : List Value} (h : qCt w base e size v n xs) (ho : qAc S w w') (hS : ∀ g, v.ownBlock = some g -> ¬ S g) : qCt w' base e size v n xs := by
 have hk : ∀ g, v.ownBlock = some g -> w'.heap[g]? = w.heap[g]? := fun g hg => ho.block g (h.1.lt g hg).2 (hS g hg); refine ⟨⟨h.1.1, ?_⟩, fun g hg o x he => h.2 g hg o x ((World.cell?_of_block (a := ⟨g, o, none⟩) (hk g hg)).symm.trans he)⟩; rcases h.1.2 with h1 | ⟨g, cap, cur, hv, hb, hh, rest⟩
 ·exact .inl h1
 ·exact .inr ⟨g, cap, cur, hv, hb, (hk g (by rw [hv]; rfl)).trans hh, rest⟩
theorem qF2 {o : Oper} {a : Act} {w : World} {K : Act -> World -> Prop} {Q : Exit -> Act -> World -> Prop} (s x : Operand) (t : TypeId)
 (ho : o.op = .call { callee := .builtin .append, args := #[s, x], argTypes := #[t, t] })
 (base : Nat) (e : TypeId) (i : TypeInfo) (z : Value) (size bytes : Nat) (ht : Try.prog.underlying t = some (.slice e)) (hi : Try.prog.info? e = some i) (hz : i.zero = some z)
 (hsize : i.size = size) (hby : i.bytes = bytes) (hzs : z.cells.size = size) (hsz : 0 < size) (hzn : ∀ u ∈ z.cells, noU u)
 (v : Value) (n : Nat) (xs : List Value) (hs : a.eval s = v) (hown : qCt w base e size v n xs)
 (ad : Addr) (m c : Nat) (news : List Value) (hx : a.eval x = .slice (some ad) m c) (hl : news.length = m * size) (hnews : ∀ j u, news[j]? = some u -> w.cell? (ad.add j) = some u) (h1 : ∀ u ∈ news, u.oneCell' = true) (hnn : ∀ u ∈ news, noU u) (hm : 0 < m)
 (h63 : n + m <= maxLen) (hbytes : (n + m) * bytes <= 140737488355328) (hbase : base <= w.heap.size)
 (h : ∀ v' w', qCt w' base e size v' (n + m) (xs ++ news) -> qAc (fun b => v.ownBlock = some b) w w' -> K (a.put o.dst v') w') : Oper.wp Try.prog o a w K Q := by
 obtain ⟨v', w', hr, h2, h3, -⟩ := run_append_own (P := Try.prog) w base t o.type e i z size bytes ht hi hz hsize hby hzs hsz v n xs hown.1 ad m c news hl hnews h1 h63 hbytes hbase; have hon : qAc (fun b => v.ownBlock = some b) w w' := ⟨h3.os, h3.tape, h3.output, h3.size, fun k hk hn => h3.block k hk (fun e => hn e.symm)⟩; have hxs : ∀ u ∈ xs, noU u := by
  intro u hu y e2; rcases hown.1.2 with ⟨rfl, rfl⟩ | ⟨g, cap, cur, hv, hb, hh, hn, hm, hs2, ht2⟩
  ·have : xs = [] := List.eq_nil_of_length_eq_zero (by simpa using hown.1.1)
   rw [this] at hu; cases hu
  ·refine qF6 hh (hown.2 g (by rw [hv]; rfl)) u ?_ y e2
   rw [<- ht2] at hu; exact Array.mem_toList_iff.1 (List.mem_of_mem_take hu)
 have hzc : ∀ k, ∀ u ∈ Builtin.zeroCells z.cells k, noU u := fun k u hu => hzn u (qCm hu (by omega)); have hbig : ∀ k, ∀ u ∈ xs.toArray ++ news.toArray ++ Builtin.zeroCells z.cells k, noU u := fun k u hu => by
  simp only [Array.mem_append, List.mem_toArray] at hu; rcases hu with (hu | hu) | hu
  ·exact hxs u hu
  ·exact hnn u hu
  ·exact hzc k u hu
 have hN : ∀ g, v'.ownBlock = some g -> qAg w' g := by
  subst hsize hby; rcases hown.1.2 with ⟨rfl, rfl⟩ | ⟨g, cap, cur, rfl, hbg, hg, hnc, hcm, hcs, htake⟩
  ·have hx0 : xs = [] := List.eq_nil_of_length_eq_zero (by simpa using hown.1.1)
   subst hx0; have hr2 := run_append_nil (P := Try.prog) w t o.type e i z ht hi hz ad m c news hl hnews hm (by unfold maxLen at h63; omega) (by simp only [Nat.zero_add] at hbytes; omega); rw [hr2] at hr; injection hr with e1 e2; subst e1 e2; intro g hg; simp only [Value.ownBlock, Option.some.injEq] at hg; subst hg; refine qCU (heap_alloc_new w.drew _) ?_; have := hbig (grownCap w m 0 e - m); simpa using this
  ·by_cases hroom : n + m <= cap
   ·have hfit : n * i.size + news.length <= cur.size := by rw [hl, hcs, <- Nat.add_mul]; exact Nat.mul_le_mul_right _ hroom
    have hr2 := run_append_room (P := Try.prog) w t o.type e i ht hi g n cap cur hg ad m c news hl hnews h1 hroom hfit; rw [hr2] at hr; injection hr with e1 e2; subst e1 e2; intro g' hg'; simp only [Value.ownBlock, Option.some.injEq] at hg'; subst hg'; refine qCU (setRow_heap w g cur _ e _ hg) ?_; intro u hu; have hcu := qF6 hg (hown.2 g rfl); simp only [List.mem_toArray, List.mem_append] at hu; rcases hu with (hu | hu) | hu
    ·exact hcu u (Array.mem_toList_iff.1 (List.mem_of_mem_take hu))
    ·exact hnn u hu
    ·exact hcu u (Array.mem_toList_iff.1 (List.mem_of_mem_drop hu))
   ·have holds : ∀ j u, xs[j]? = some u -> w.cell? ((⟨g, 0, none⟩ : Addr).add j) = some u := hown.1.cells (g := g) rfl
    have hr2 := run_append_grow (P := Try.prog) w t o.type e i z ht hi hz ⟨g, 0, none⟩ n cap xs hown.1.1 holds ad m c news hl hnews (by omega) (by unfold maxLen at h63; omega) (growslice_fits (by omega) hbytes); rw [hr2] at hr; injection hr with e1 e2; subst e1 e2; intro g' hg'; simp only [Value.ownBlock, Option.some.injEq] at hg'; subst hg'; exact qCU (heap_alloc_new w.drew _) (hbig _)
 unfold Oper.wp execOp; simp only [ho, resolve, invoke, builtin, Sem.run_bind, Sem.run_pure, Result.andThen_ok, List.map_toArray, List.map_cons, List.map_nil, hs, hx, hr]; exact h v' w' ⟨h2, hN⟩ hon
theorem qGK {ops : Array Oper} {rest : List Oper} {o : Oper} {a : Act} {w : World} {Q : Exit -> Act -> World -> Prop} (hgd : o.guard = none) (s x : Operand) (t : TypeId)
 (ho : o.op = .call { callee := .builtin .append, args := #[s, x], argTypes := #[t, t] })
 (base : Nat) (e : TypeId) (i : TypeInfo) (z : Value) (size bytes : Nat) (ht : Try.prog.underlying t = some (.slice e)) (hi : Try.prog.info? e = some i) (hz : i.zero = some z)
 (hsize : i.size = size) (hby : i.bytes = bytes) (hzs : z.cells.size = size) (hsz : 0 < size) (hzn : ∀ u ∈ z.cells, noU u)
 (v : Value) (n : Nat) (xs : List Value) (hs : a.eval s = v) (hown : qCt w base e size v n xs)
 (ad : Addr) (m c : Nat) (news : List Value) (hx : a.eval x = .slice (some ad) m c) (hl : news.length = m * size) (hnews : ∀ j u, news[j]? = some u -> w.cell? (ad.add j) = some u) (h1 : ∀ u ∈ news, u.oneCell' = true) (hnn : ∀ u ∈ news, noU u) (hm : 0 < m)
 (h63 : n + m <= maxLen) (hbytes : (n + m) * bytes <= 140737488355328) (hbase : base <= w.heap.size)
 (h : ∀ v' w', qCt w' base e size v' (n + m) (xs ++ news) -> qAc (fun b => v.ownBlock = some b) w w' -> wpList Try.prog ops Q rest (a.put o.dst v') w') : wpList Try.prog ops Q (o :: rest) a w := 
 wpList_plain hgd fun K hK => qF2 s x t ho base e i z size bytes ht hi hz hsize hby hzs hsz hzn v n xs hs hown ad m c news hx hl hnews h1 hnn hm h63 hbytes hbase (fun v' w' g1 g2 => hK _ _ (h v' w' g1 g2))
theorem qII {ops : Array Oper} {o : Oper} {a : Act} {w : World} {K : Act -> World -> Prop} {Q : Exit -> Act -> World -> Prop} {E : Prop} (hgd : o.guard = none) (d : Nat) (hd : o.dst = some d) (s x : Operand) (t : TypeId)
 (ho : o.op = .call { callee := .builtin .append, args := #[s, x], argTypes := #[t, t] })
 (base : Nat) (e : TypeId) (i : TypeInfo) (z : Value) (size bytes : Nat) (ht : Try.prog.underlying t = some (.slice e)) (hi : Try.prog.info? e = some i) (hz : i.zero = some z)
 (hsize : i.size = size) (hby : i.bytes = bytes) (hzs : z.cells.size = size) (hsz : 0 < size) (hzn : ∀ u ∈ z.cells, noU u)
 (v : Value) (n : Nat) (xs : List Value) (hs : a.eval s = v) (hown : qCt w base e size v n xs)
 (ad : Addr) (m c : Nat) (news : List Value) (hx : a.eval x = .slice (some ad) m c) (hl : news.length = m * size) (hnews : ∀ j u, news[j]? = some u -> w.cell? (ad.add j) = some u) (h1 : ∀ u ∈ news, u.oneCell' = true) (hnn : ∀ u ∈ news, noU u) (hm : 0 < m)
 (h63 : n + m <= maxLen) (hbytes : (n + m) * bytes <= 140737488355328) (hbase : base <= w.heap.size)
 (h : ∀ v' w', qCt w' base e size v' (n + m) (xs ++ news) -> qAc (fun b => v.ownBlock = some b) w w' -> K ⟨a.tmps.setIfInBounds d v', a.defers⟩ w') : if Region.wanted o (yielded ops a.tmps) = true then Oper.wp Try.prog o a w K Q else E := by
 rw [if_pos (by simp [Region.wanted, hgd])]; exact qF2 s x t ho base e i z size bytes ht hi hz hsize hby hzs hsz hzn v n xs hs hown ad m c news hx hl hnews h1 hnn hm h63 hbytes hbase (fun v' w' g1 g2 => by rw [hd]; exact h v' w' g1 g2)
end Go.Proofs.Ytlmbebbdamgfpaa
