/- Matrices of ints in memory; lattice.check. -/
import Derived.Test.YtlmbebbdamgfpaaQUWSmall
import Derived.Test.YtlmbebbdamgfpaaQUGApp
set_option linter.unusedVariables false
set_option linter.unusedSimpArgs false
set_option linter.unusedVariables false
set_option linter.unusedSimpArgs false
namespace Go.Proofs.Ytlmbebbdamgfpaa
open Go.RowKit

/-- no word lies in block g -/
def NoInt (w : World) (g : Nat) : Prop := ∀ (o : Nat) (x : Int), w.cell? ⟨g, o, none⟩ ≠ some (.int .u32 x)
theorem RowAt.far {w : World} {v : Value} {L : List Nat} {g : Nat} (h : RowAt .u32 w v L) (hg : NoInt w g) (o : Nat) (u : Value) : RowAt .u32 (w.setCell ⟨g, o, none⟩ u) v L := by
 obtain ⟨a, cap, hv, h1, h2, hc⟩ := h
 refine ⟨a, cap, hv, h1, h2, fun h0 => ?_⟩
 obtain ⟨b, off, ha, hlt, hcc⟩ := hc h0
 have hne : b ≠ g := by
  rintro rfl
  exact hg _ _ (hcc 0 h0)
 refine ⟨b, off, ha, by simpa [World.setCell] using hlt, fun j hj => ?_⟩
 rw [World.cell?_setCell_other _ _ _ _ (by intro e; injection e with e1; exact hne e1.symm)]
 exact hcc j hj
theorem WInt.far {w : World} {v : Value} {z : Int} {g : Nat} (h : WInt w v z) (hg : NoInt w g) (o : Nat) (u : Value) : WInt (w.setCell ⟨g, o, none⟩ u) v z := by
 obtain ⟨vw, hv, hm⟩ := h
 exact ⟨vw, hv, hm.far hg o u⟩
theorem BlkC.noInt {w : World} {g : Nat} {t : TypeId} {cs : List Value} (h : BlkC w g t cs) (hc : ∀ u ∈ cs, ∀ x, u ≠ .int .u32 x) : NoInt w g := by
 intro o x he
 rw [h.cell] at he
 exact hc _ (List.mem_of_getElem? he) x rfl

/-- cells that read as wide integers -/
def WCs (w : World) (cs : List Value) (zs : List Int) : Prop :=
 zs.length * 2 ≤ cs.length ∧ (∀ u ∈ cs, ∀ x, u ≠ .int .u32 x) ∧ ∀ j (h : j < zs.length), ∃ a n c, cs[j * 2]? = some (.bool (decide (zs[j] < 0))) ∧ cs[j * 2 + 1]? = some (.slice a n c) ∧ WInt w (.agg #[.bool (decide (zs[j] < 0)), .slice a n c]) zs[j]
theorem WCs.noInt {w : World} {cs : List Value} {zs : List Int} (h : WCs w cs zs) : ∀ u ∈ cs, ∀ x, u ≠ .int .u32 x := h.2.1
theorem WCs.below {w w' : World} {cs : List Value} {zs : List Int} (h : WCs w cs zs) (hb : Below w.heap.size w w') : WCs w' cs zs := by
 refine ⟨h.1, h.2.1, fun j hj => ?_⟩
 obtain ⟨a, n, c, h1, h2, h3⟩ := h.2.2 j hj
 exact ⟨a, n, c, h1, h2, h3.below hb⟩
theorem WCs.far {w : World} {cs : List Value} {zs : List Int} {g : Nat} (h : WCs w cs zs) (hg : NoInt w g) (o : Nat) (u : Value) : WCs (w.setCell ⟨g, o, none⟩ u) cs zs := by
 refine ⟨h.1, h.2.1, fun j hj => ?_⟩
 obtain ⟨a, n, c, h1, h2, h3⟩ := h.2.2 j hj
 exact ⟨a, n, c, h1, h2, h3.far hg o u⟩
/-- block g is a row of wide integers -/
def WRow (w : World) (g : Nat) (zs : List Int) : Prop := ∃ cs, BlkC w g 58 cs ∧ WCs w cs zs
section
variable {w w' : World} {g : Nat} {zs : List Int}
theorem WRow.lt (h : WRow w g zs) : g < w.heap.size := by obtain ⟨cs, h1, _⟩ := h; exact h1.lt
theorem WRow.noInt (h : WRow w g zs) : NoInt w g := by obtain ⟨cs, h1, h2⟩ := h; exact h1.noInt h2.noInt
theorem WRow.frozen (h : WRow w g zs) (o : Nat) : w.frozen? ⟨g, o, none⟩ = false := by obtain ⟨cs, h1, h2⟩ := h; exact h1.frozen o
theorem WRow.at_ (h : WRow w g zs) (j : Nat) (hj : j < zs.length) : ∃ a n c, w.cell? ⟨g, j * 2, none⟩ = some (.bool (decide (zs[j] < 0))) ∧ w.cell? ⟨g, j * 2 + 1, none⟩ = some (.slice a n c) ∧ WInt w (.agg #[.bool (decide (zs[j] < 0)), .slice a n c]) zs[j] := by
 obtain ⟨cs, h1, h2⟩ := h
 obtain ⟨a, n, c, e1, e2, e3⟩ := h2.2.2 j hj
 exact ⟨a, n, c, (h1.cell _).trans e1, (h1.cell _).trans e2, e3⟩
theorem WRow.below (h : WRow w g zs) (hb : Below w.heap.size w w') : WRow w' g zs := by
 obtain ⟨cs, h1, h2⟩ := h
 exact ⟨cs, h1.below hb h1.lt, h2.below hb⟩
theorem WRow.far {g' : Nat} (h : WRow w g zs) (hne : g ≠ g') (hg : NoInt w g') (o : Nat) (u : Value) : WRow (w.setCell ⟨g', o, none⟩ u) g zs := by
 obtain ⟨cs, h1, h2⟩ := h
 exact ⟨cs, h1.far hne u, h2.far hg o u⟩
/-- an element is stored -/
theorem WRow.put (h : WRow w g zs) (j : Nat) (hj : j < zs.length) {z : Int} {a : Option Addr} {n c : Nat} (hz : WInt w (.agg #[.bool (decide (z < 0)), .slice a n c]) z) :
 WRow ((w.setCell ⟨g, j * 2, none⟩ (.bool (decide (z < 0)))).setCell ⟨g, j * 2 + 1, none⟩ (.slice a n c)) g (zs.set j z) := by
 have hn := h.noInt
 obtain ⟨cs, h1, h2⟩ := h
 have h3 := h1.set (j * 2) (.bool (decide (z < 0)))
 have hn2 : NoInt (w.setCell ⟨g, j * 2, none⟩ (.bool (decide (z < 0)))) g := h3.noInt (fun u hu x => by
  rcases List.mem_or_eq_of_mem_set hu with h | h
  ·exact h2.noInt u h x
  ·rw [h]; intro e; cases e)
 have h4 := (h2.far hn (j * 2) (.bool (decide (z < 0)))).far hn2 (j * 2 + 1) (.slice a n c)
 refine ⟨_, h3.set (j * 2 + 1) (.slice a n c), by simpa using h2.1, ?_, fun q hq => ?_⟩
 ·intro u hu x
  rcases List.mem_or_eq_of_mem_set hu with h | h
  ·rcases List.mem_or_eq_of_mem_set h with h | h
   ·exact h2.noInt u h x
   ·rw [h]; intro e; cases e
  ·rw [h]; intro e; cases e
 rw [List.length_set] at hq
 by_cases e : q = j
 ·subst e
  have hl := h2.1
  refine ⟨a, n, c, ?_, ?_, ?_⟩
  ·rw [List.getElem?_set_ne (by omega), List.getElem?_set_self (by omega), List.getElem_set_self]
  ·rw [List.getElem?_set_self (by simp; omega)]
  ·rw [List.getElem_set_self]
   exact (hz.far hn _ _).far hn2 _ _
 ·obtain ⟨a', n', c', e1, e2, e3⟩ := h4.2.2 q hq
  refine ⟨a', n', c', ?_, ?_, ?_⟩
  ·rw [List.getElem?_set_ne (by omega), List.getElem?_set_ne (by omega), List.getElem_set_ne (Ne.symm e)]; exact e1
  ·rw [List.getElem?_set_ne (by omega), List.getElem?_set_ne (by omega)]; exact e2
  ·rw [List.getElem_set_ne (Ne.symm e)]; exact e3
end
end Go.Proofs.Ytlmbebbdamgfpaa
set_option linter.unusedVariables false
set_option linter.unusedSimpArgs false
namespace Go.Proofs.Ytlmbebbdamgfpaa
open Go.RowKit

def MatAt (w : World) (v : Value) (m : List (List Int)) : Prop := SliceOf 1 (fun W r cs => ∃ u, cs = [u] ∧ IntsOf W u r) w v m
theorem MatAt.below {w w' : World} {v : Value} {m : List (List Int)} (h : MatAt w v m) (hb : Below w.heap.size w w') : MatAt w' v m :=
 SliceOf.below h hb (fun _ _ ⟨u, e, hu⟩ => ⟨u, e, hu.below hb⟩)
theorem MatAt.form {w : World} {v : Value} {m : List (List Int)} (h : MatAt w v m) : ∃ a cap, v = .slice a m.length cap ∧ m.length ≤ cap ∧ cap ≤ 9223372036854775807 := SliceOf.form h
theorem MatAt.at_ {w : World} {v : Value} {m : List (List Int)} (h : MatAt w v m) (j : Nat) (hj : j < m.length) :
 ∃ b cap a c, v = .slice (some ⟨b, 0, none⟩) m.length cap ∧ b < w.heap.size ∧ w.cell? ⟨b, j, none⟩ = some (.slice a m[j].length c) ∧ IntsOf w (.slice a m[j].length c) m[j] ∧ m[j].length ≤ c ∧ c ≤ 9223372036854775807 := by
 obtain ⟨b, cap, cs, hv, hb, ⟨u, rfl, hu⟩, hcell⟩ := SliceOf.at_ h j hj
 obtain ⟨a, c, rfl, h1, h2⟩ := hu.form
 have h0 := hcell.2 0 (by omega)
 exact ⟨b, cap, a, c, hv, hb, by simpa using h0, hu, h1, h2⟩

def checkZ (m : List (List Int)) : Int :=
 if 64 < m.length then 4 else if m.any (fun r => decide (128 < r.length)) then 4
 else if m.any (fun r => decide (r.length ≠ (m[0]?.getD []).length)) then 1
 else if m.any (fun r => r.any (fun x => decide (x < -1099511627776 ∨ 1099511627776 < x))) then 5 else 0

theorem checkZ_rows {m : List (List Int)} (h : 64 < m.length) : checkZ m = 4 := by simp [checkZ, h]
theorem checkZ_cols {m : List (List Int)} (h : m.length ≤ 64) {r : List Int} (hr : r ∈ m) (h2 : 128 < r.length) : checkZ m = 4 := by
 rw [checkZ, if_neg (by omega), if_pos (List.any_eq_true.2 ⟨r, hr, by simpa using h2⟩)]
theorem checkZ_rag {m : List (List Int)} (h : m.length ≤ 64) (h2 : ∀ r ∈ m, r.length ≤ 128) (h0 : 0 < m.length) {r : List Int} (hr : r ∈ m) (h3 : r.length ≠ m[0].length) : checkZ m = 1 := by
 rw [checkZ, if_neg (by omega), if_neg (by rw [List.any_eq_true]; rintro ⟨x, hx, e⟩; have := h2 x hx; simp at e; omega), if_pos (List.any_eq_true.2 ⟨r, hr, by simpa [List.getElem?_eq_getElem h0] using h3⟩)]
theorem checkZ_out {m : List (List Int)} (h : m.length ≤ 64) (h2 : ∀ r ∈ m, r.length ≤ 128) (h0 : 0 < m.length) (h3 : ∀ r ∈ m, r.length = m[0].length) {r : List Int} (hr : r ∈ m) {x : Int} (hx : x ∈ r) (h4 : x < -1099511627776 ∨ 1099511627776 < x) : checkZ m = 5 := by
 rw [checkZ, if_neg (by omega), if_neg (by rw [List.any_eq_true]; rintro ⟨x, hx, e⟩; have := h2 x hx; simp at e; omega), if_neg (by rw [List.any_eq_true]; rintro ⟨x, hx, e⟩; have := h3 x hx; simp [List.getElem?_eq_getElem h0] at e; omega),
  if_pos (List.any_eq_true.2 ⟨r, hr, List.any_eq_true.2 ⟨x, hx, by simpa using h4⟩⟩)]
structure Checked (m : List (List Int)) : Prop where
 rows : m.length ≤ 64
 cols : ∀ r ∈ m, r.length ≤ 128
 even : ∀ r ∈ m, r.length = (m[0]?.getD []).length
 small : ∀ r ∈ m, ∀ x ∈ r, -1099511627776 ≤ x ∧ x ≤ 1099511627776
theorem checkZ_ok {m : List (List Int)} : checkZ m = 0 ↔ Checked m := by
 unfold checkZ
 constructor
 ·intro h
  split at h
  ·simp at h
  ·rename_i h1
   split at h
   ·simp at h
   ·rename_i h2
    split at h
    ·simp at h
    ·rename_i h3
     split at h
     ·simp at h
     ·rename_i h4
      simp only [List.any_eq_true, decide_eq_true_eq, not_exists, not_and] at h2 h3 h4
      refine ⟨by omega, fun r hr => by have := h2 r hr; omega, fun r hr => by have := h3 r hr; omega, fun r hr x hx => by have := h4 r hr x hx; omega⟩
 ·intro h
  rw [if_neg (by have := h.rows; omega), if_neg, if_neg, if_neg]
  ·rw [List.any_eq_true]; rintro ⟨r, hr, e⟩
   rw [List.any_eq_true] at e
   obtain ⟨x, hx, e⟩ := e
   have := h.small r hr x hx
   simp at e
   omega
  ·rw [List.any_eq_true]; rintro ⟨r, hr, e⟩
   have := h.even r hr
   simp at e
   exact e this
  ·rw [List.any_eq_true]; rintro ⟨r, hr, e⟩
   have := h.cols r hr
   simp at e
   omega
end Go.Proofs.Ytlmbebbdamgfpaa
