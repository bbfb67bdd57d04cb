/- Lists of lines in memory. -/
import Derived.Test.YtlmbebbdamgfpaaQULRow
import Derived.Test.YtlmbebbdamgfpaaQULBezP
set_option linter.unusedVariables false
set_option linter.unusedSimpArgs false
set_option linter.unusedVariables false
set_option linter.unusedSimpArgs false
namespace Go.Proofs.Ytlmbebbdamgfpaa
open Go.RowKit

/-- a line in memory: the row's block, its capacity, what goes along -/
abbrev Ln := Nat × Nat × Int
def lnC (n : Nat) (x : Ln) : List Value := [.slice (some ⟨x.1, 0, none⟩) n x.2.1, .int .i64 x.2.2]
/-- block B is a list of lines; their rows are M, of n entries -/
structure LnAt (w : World) (B : Nat) (l : List Ln) (n : Nat) (M : List (List Int)) : Prop where
 blk : BlkC w B 103 (l.flatMap (lnC n))
 len : M.length = l.length
 row : ∀ i (h : i < l.length), WRow w l[i].1 (M[i]'(by omega)) ∧ (M[i]'(by omega)).length = n
 nodup : ∀ i j (h : i < l.length) (h' : j < l.length), i ≠ j → l[i].1 ≠ l[j].1
 cap : ∀ i (h : i < l.length), n ≤ l[i].2.1 ∧ l[i].2.1 ≤ 9223372036854775807
 apart : ∀ i (h : i < l.length), l[i].1 ≠ B
section
variable {w w' : World} {B n : Nat} {l : List Ln} {M : List (List Int)}
theorem LnAt.blw (h : LnAt w B l n M) (hb : Below w.heap.size w w') : LnAt w' B l n M :=
 ⟨h.blk.blw hb, h.len, fun i hi => ⟨(h.row i hi).1.blw hb, (h.row i hi).2⟩, h.nodup, h.cap, h.apart⟩
theorem LnAt.lt (h : LnAt w B l n M) : B < w.heap.size := h.blk.lt
theorem lnC_at (n : Nat) : ∀ (l : List Ln) (i : Nat) (h : i < l.length), (l.flatMap (lnC n))[i * 2]? = some (.slice (some ⟨l[i].1, 0, none⟩) n l[i].2.1) ∧ (l.flatMap (lnC n))[i * 2 + 1]? = some (.int .i64 l[i].2.2)
 | x :: r, 0, _ => by simp [lnC]
 | x :: r, i + 1, h => by
  have := lnC_at n r i (by simpa using h)
  rw [show (i + 1) * 2 = i * 2 + 2 by omega, show i * 2 + 2 + 1 = i * 2 + 1 + 2 by omega]
  simpa [lnC] using this
theorem lnC_len (n : Nat) : ∀ (l : List Ln), (l.flatMap (lnC n)).length = l.length * 2
 | [] => rfl
 | x :: r => by rw [List.flatMap_cons, List.length_append, lnC_len n r]; simp [lnC]; omega
theorem LnAt.get (h : LnAt w B l n M) (i : Nat) (hi : i < l.length) : w.cell? ⟨B, i * 2, none⟩ = some (.slice (some ⟨l[i].1, 0, none⟩) n l[i].2.1) ∧ w.cell? ⟨B, i * 2 + 1, none⟩ = some (.int .i64 l[i].2.2) :=
 ⟨(h.blk.cell _).trans (lnC_at n l i hi).1, (h.blk.cell _).trans (lnC_at n l i hi).2⟩
theorem LnAt.frozen (h : LnAt w B l n M) (o : Nat) : w.frozen? ⟨B, o, none⟩ = false := h.blk.frozen o
theorem lnC_noInt {n : Nat} {l : List Ln} : ∀ u ∈ l.flatMap (lnC n), ∀ x, u ≠ .int .u32 x := by
 intro u hu x
 obtain ⟨y, _, hy⟩ := List.mem_flatMap.1 hu
 rcases List.mem_cons.1 hy with rfl | hy
 ·intro e; cases e
 ·rw [List.mem_singleton.1 hy]; intro e; cases e
theorem LnAt.noInt (h : LnAt w B l n M) : NoInt w B := h.blk.noInt lnC_noInt
/-- one row turns -/
theorem LnAt.turn {i : Nat} (h : LnAt w B l n M) (hi : i < l.length) {zs : List Int} (hz : zs.length = n) (hr : WRow w' l[i].1 zs) (ho : Only (fun b => b = l[i].1) w w') : LnAt w' B l n (M.set i zs) := by
 have hN : ∀ b, b = l[i].1 → NoInt w b := fun b e => e ▸ (h.row i hi).1.noInt
 refine ⟨h.blk.only ho (fun e => h.apart i hi e.symm), by rw [List.length_set]; exact h.len, fun k hk => ?_, h.nodup, h.cap, h.apart⟩
 by_cases e : k = i
 ·subst e
  rw [List.getElem_set_self]
  exact ⟨hr, hz⟩
 ·rw [List.getElem_set_ne (Ne.symm e)]
  exact ⟨(h.row k hk).1.only ho hN (fun e2 => h.nodup k i hk hi e e2), (h.row k hk).2⟩
/-- what turns no line -/
theorem LnAt.only {S : Nat → Prop} (h : LnAt w B l n M) (ho : Only S w w') (hS : ∀ b, S b → NoInt w b) (hB : ¬ S B) (hr : ∀ i (hi : i < l.length), ¬ S l[i].1) : LnAt w' B l n M :=
 ⟨h.blk.only ho hB, h.len, fun i hi => ⟨(h.row i hi).1.only ho hS (hr i hi), (h.row i hi).2⟩, h.nodup, h.cap, h.apart⟩
theorem lnC_set (n : Nat) : ∀ (l : List Ln) (i : Nat) (x : Ln), i < l.length → (l.set i x).flatMap (lnC n) = ((l.flatMap (lnC n)).set (i * 2) (.slice (some ⟨x.1, 0, none⟩) n x.2.1)).set (i * 2 + 1) (.int .i64 x.2.2)
 | y :: r, 0, x, _ => by simp [lnC]
 | y :: r, i + 1, x, h => by
  have := lnC_set n r i x (by simpa using h)
  rw [show (i + 1) * 2 = i * 2 + 2 by omega, show i * 2 + 2 + 1 = i * 2 + 1 + 2 by omega]
  simp [lnC, this]
/-- two lines are exchanged -/
theorem LnAt.swap (h : LnAt w B l n M) (i k : Nat) (hi : i < l.length) (hk : k < l.length) :
 LnAt ((((w.setCell ⟨B, i * 2, none⟩ (.slice (some ⟨l[k].1, 0, none⟩) n l[k].2.1)).setCell ⟨B, i * 2 + 1, none⟩ (.int .i64 l[k].2.2)).setCell ⟨B, k * 2, none⟩ (.slice (some ⟨l[i].1, 0, none⟩) n l[i].2.1)).setCell ⟨B, k * 2 + 1, none⟩ (.int .i64 l[i].2.2)) B (swapL l i k hi hk) n (swapL M i k (by rw [h.len]; exact hi) (by rw [h.len]; exact hk)) := by
 have hb := (((h.blk.set (i * 2) (.slice (some ⟨l[k].1, 0, none⟩) n l[k].2.1)).set (i * 2 + 1) (.int .i64 l[k].2.2)).set (k * 2) (.slice (some ⟨l[i].1, 0, none⟩) n l[i].2.1)).set (k * 2 + 1) (.int .i64 l[i].2.2)
 have e : swapL l i k hi hk = (l.set i l[k]).set k l[i] := rfl
 have e2 : (swapL l i k hi hk).flatMap (lnC n) = ((((l.flatMap (lnC n)).set (i * 2) (.slice (some ⟨l[k].1, 0, none⟩) n l[k].2.1)).set (i * 2 + 1) (.int .i64 l[k].2.2)).set (k * 2) (.slice (some ⟨l[i].1, 0, none⟩) n l[i].2.1)).set (k * 2 + 1) (.int .i64 l[i].2.2) := by
  rw [e, lnC_set n _ k _ (by simpa using hk), lnC_set n l i _ hi]
 have hof : Only (fun b => b = B) w ((((w.setCell ⟨B, i * 2, none⟩ (.slice (some ⟨l[k].1, 0, none⟩) n l[k].2.1)).setCell ⟨B, i * 2 + 1, none⟩ (.int .i64 l[k].2.2)).setCell ⟨B, k * 2, none⟩ (.slice (some ⟨l[i].1, 0, none⟩) n l[i].2.1)).setCell ⟨B, k * 2 + 1, none⟩ (.int .i64 l[i].2.2)) :=
  ((((Only.refl (fun b => b = B) w).set (p := ⟨B, i * 2, none⟩) rfl _).set (p := ⟨B, i * 2 + 1, none⟩) rfl _).set (p := ⟨B, k * 2, none⟩) rfl _).set (p := ⟨B, k * 2 + 1, none⟩) rfl _
 have hN : ∀ b, b = B → NoInt w b := fun b e => e ▸ h.noInt
 have hl : (swapL l i k hi hk).length = l.length := swapL_len
 have hsw : ∀ q (hq : q < (swapL l i k hi hk).length), ∃ p, ∃ hp : p < l.length, (swapL l i k hi hk)[q] = l[p] ∧ (swapL M i k (by rw [h.len]; exact hi) (by rw [h.len]; exact hk))[q]'(by rw [swapL_len, h.len, ← hl]; exact hq) = M[p]'(by rw [h.len]; exact hp) ∧ p = if q = k then i else if q = i then k else q := fun q hq => by
  rw [hl] at hq
  rw [swapL_at q hq, swapL_at q (by rw [h.len]; exact hq)]
  by_cases h1 : q = k
  ·exact ⟨i, hi, by rw [if_pos h1], by rw [if_pos h1], by rw [if_pos h1]⟩
  ·by_cases h2 : q = i
   ·exact ⟨k, hk, by rw [if_neg h1, if_pos h2], by rw [if_neg h1, if_pos h2], by rw [if_neg h1, if_pos h2]⟩
   ·exact ⟨q, hq, by rw [if_neg h1, if_neg h2], by rw [if_neg h1, if_neg h2], by rw [if_neg h1, if_neg h2]⟩
 refine ⟨by rw [e2]; exact hb, by rw [swapL_len, swapL_len]; exact h.len, fun q hq => ?_, fun a b ha hb2 hab => ?_, fun q hq => ?_, fun q hq => ?_⟩
 ·obtain ⟨p, hp, e1, e3, -⟩ := hsw q hq
  rw [e1, e3]
  exact ⟨(h.row p hp).1.only hof hN (h.apart p hp), (h.row p hp).2⟩
 ·obtain ⟨p, hp, e1, -, e3⟩ := hsw a ha
  obtain ⟨p', hp', e4, -, e5⟩ := hsw b hb2
  rw [e1, e4]
  refine h.nodup p p' hp hp' ?_
  rw [e3, e5]
  split <;> split <;> (try split) <;> (try split) <;> omega
 ·obtain ⟨p, hp, e1, -, -⟩ := hsw q hq
  rw [e1]
  exact h.cap p hp
 ·obtain ⟨p, hp, e1, -, -⟩ := hsw q hq
  rw [e1]
  exact h.apart p hp
end
end Go.Proofs.Ytlmbebbdamgfpaa
