/- What Parse, Add, Sub, Mul answer around the bounds of the range. -/
import Derived.Test.YtgfgjnkndfgdiaaDoorParseRound
import Derived.Test.YtgfgjnkndfgdiaaDoorNRow
import Derived.Test.YtgfgjnkndfgdiaaDoorR5Near
namespace Go.Proofs.YtgfgjnkndfgdiaaDoor
open Go.RowKit

/-- the integer that is answered, 0 out of range -/
def lz (z : Int) : Int := if z.natAbs < LIM then z else 0
/-- the error that is answered -/
def lk (z : Int) : Int := if z.natAbs < LIM then 0 else 4
theorem lz_lim (z : Int) : (lz z).natAbs < LIM := by
  unfold lz
  split
  · assumption
  · exact lim_of_le (k := 1) (by decide) (by decide)

theorem LimPost.both {z : Int} {w w' : World} {e : Ending} (h : LimPost z w e w') : ∃ v, e = .returned (.tuple #[v, .int .i64 (lk z)]) ∧ WInt w' v (lz z) ∧ Below w.heap.size w w' := by
  obtain ⟨hB, ⟨hl, v, rfl, hW⟩ | ⟨hl, rfl⟩⟩ := h
  · unfold lk lz
    rw [if_pos hl, if_pos hl]
    exact ⟨v, rfl, hW, hB⟩
  · unfold lk lz
    rw [if_neg (by omega), if_neg (by omega)]
    exact ⟨_, rfl, wint_zero w', hB⟩

theorem parse_decZ_any (z : Int) (hz : (dec z.natAbs).length ≤ 4990) : parseS (decZ z) = if z.natAbs < LIM then .ok z else .error 4 := by
  by_cases hlim : z.natAbs < LIM
  · rw [if_pos hlim]
    exact parse_decZ z (by rw [lim_eq] at hlim; exact hlim)
  · rw [if_neg hlim]
    obtain ⟨d1, d2, c, l, hd, hd2⟩ := dec_dig z.natAbs
    have hne : z.natAbs ≠ 0 := by
      intro h
      apply hlim
      rw [h]
      exact lim_of_le (k := 1) (by decide) (by decide)
    have hall : ∀ c ∈ dec z.natAbs, 48 ≤ c.toNat ∧ c.toNat ≤ 57 := d1
    have hc48 : c ≠ 48 := by
      unfold dec at hd
      rw [if_neg hne] at hd
      obtain ⟨c', l', h1, h2⟩ := (decP_dig z.natAbs).2.2 hne
      rw [h1] at hd
      have : c' = c := by cases hd; rfl
      rw [← this]; exact h2
    have hnb : ∀ b, ¬ (dec z.natAbs = [] ∨ ((dec z.natAbs).head? = some 48 ∧ (b = true ∨ 1 < (dec z.natAbs).length))) := by
      rintro b (h | ⟨h, -⟩)
      · rw [hd] at h; cases h
      · rw [hd] at h
        exact hc48 (by simpa using h)
    have hp : ∀ b, parseD b (dec z.natAbs) = .error 4 := by
      intro b
      unfold parseD
      rw [if_neg (hnb b), if_pos hall, d2, if_neg hlim]
    unfold decZ
    by_cases hn : z < 0
    · rw [if_pos hn, parseS_neg _ (by omega)]
      exact hp true
    · rw [if_neg hn]
      have hc45 : c ≠ 45 := by
        have := d1 c (by rw [hd]; exact List.mem_cons_self ..)
        unfold IsDig at this
        intro h
        rw [h] at this
        exact absurd this.1 (by decide)
      have hl5 : ¬ 5000 < l.length + 1 := by rw [hd, List.length_cons] at hz; omega
      rw [hd, parseS_pos c l hc45 hl5, ← hd]
      exact hp false

theorem dec_len_pow (n k : Nat) (h : n < 2 ^ (3 * k + 3)) : (dec n).length ≤ k + 1 := by
  refine dec_len_le n (k + 1) (by omega) (Nat.lt_of_lt_of_le h ?_)
  rw [show 3 * k + 3 = 3 * (k + 1) by omega, Nat.pow_mul]
  exact Nat.pow_le_pow_left (by decide) _

theorem near_lt2 (E : Nat) (F : Int) (hF : -3 ≤ F ∧ F ≤ 3) : (((2 ^ E : Nat) : Int) + F).natAbs < 2 ^ (E + 3) := by
  have := Nat.one_le_two_pow (n := E)
  rw [Nat.pow_add]
  generalize 2 ^ E = p at *
  omega
theorem nearZ_lt2 (n : Int) (r : Nat) (hr : (around n 28).toNat % 4 = r) : (nearZ n).natAbs < 2 ^ (nearE r + 3) := by
  have h := around_range n 28 (by omega)
  unfold nearZ
  rw [hr]
  split
  · rw [Int.natAbs_neg]; exact near_lt2 _ _ (by omega)
  · exact near_lt2 _ _ (by omega)
theorem pow_le_lim8 (E m : Nat) (hL : LIM = 2 ^ m) (hE : E ≤ m) : 2 ^ (E + 3) ≤ LIM * 8 := by
  rw [hL, Nat.pow_add]
  exact Nat.mul_le_mul_right _ (pow_mono2 hE)
theorem nearZ_lim8 (n : Int) : (nearZ n).natAbs < LIM * 8 := Nat.lt_of_lt_of_le (nearZ_lt2 n _ rfl) (pow_le_lim8 _ 16384 lim_eq (nearE_le _))
theorem big_dec (m d : Nat) (hL : LIM = 2 ^ m) (hb : 2 ^ m ≤ 10 ^ d) : LIM * 8 ≤ 10 ^ d * 10 := by
  rw [hL]
  exact Nat.mul_le_mul hb (by decide)
theorem dec_len8 (n : Nat) (k : Nat) (h : n < LIM * 8) (hk : LIM * 8 ≤ 10 ^ k * 10) : (dec n).length ≤ k + 1 := dec_len_le n (k + 1) (by omega) (by rw [Nat.pow_succ]; omega)
theorem near_dec (n : Int) : (dec (nearZ n).natAbs).length ≤ 4990 := Nat.le_trans (dec_len8 _ 4933 (nearZ_lim8 n) (big_dec 16384 4933 lim_eq big_bound)) (by omega)
theorem near_len4 (n : Int) : (digs T4 (nearZ n).natAbs).length ≤ 16387 := by
  refine Nat.le_trans (len_pow _ _ (nearZ_lt2 n _ rfl)) ?_
  have := nearE_le ((around n 28).toNat % 4)
  omega
theorem near2_lim (q : Int) (h1 : 0 ≤ q ∧ q < 7) : (nearZ (4 * q + 2)).natAbs < LIM := by
  have h : (around (4 * q + 2) 28).toNat % 4 = 2 := by
    unfold around
    rw [if_neg (by omega)]
    omega
  have := nearZ_lt2 _ 2 h
  rw [nearEn.2.2.1] at this
  exact lim_of_le (k := 8192 + 3) (by decide) this

/-- block g is a row of integers of the package -/
def WRow (w : World) (g : Nat) (zs : List Int) : Prop :=
  g < w.heap.size ∧ ∀ i (h : i < zs.length), ∃ s a n c, w.cell? ⟨g, i * 2, none⟩ = some (.bool s) ∧ w.cell? ⟨g, i * 2 + 1, none⟩ = some (.slice a n c) ∧ WInt w (.agg #[.bool s, .slice a n c]) zs[i]
theorem WRow.below {w w' : World} {g : Nat} {zs : List Int} (h : WRow w g zs) (hb : Below w.heap.size w w') : WRow w' g zs := by
  refine ⟨Nat.lt_of_lt_of_le h.1 hb.size, fun i hi => ?_⟩
  obtain ⟨s, a, n, c, h1, h2, h3⟩ := h.2 i hi
  exact ⟨s, a, n, c, (hb.cell (p := ⟨g, i * 2, none⟩) h.1).trans h1, (hb.cell (p := ⟨g, i * 2 + 1, none⟩) h.1).trans h2, h3.below hb⟩
theorem WRow.four {w : World} {s1 s2 s3 s4 : Bool} {a1 a2 a3 a4 : Option Addr} {n1 n2 n3 n4 c1 c2 c3 c4 : Nat} {x y z u : Int} (t : TypeId) (h1 : WInt w (.agg #[.bool s1, .slice a1 n1 c1]) x) (h2 : WInt w (.agg #[.bool s2, .slice a2 n2 c2]) y) (h3 : WInt w (.agg #[.bool s3, .slice a3 n3 c3]) z) (h4 : WInt w (.agg #[.bool s4, .slice a4 n4 c4]) u) :
    WRow (w.alloc (.cells #[.bool s1, .slice a1 n1 c1, .bool s2, .slice a2 n2 c2, .bool s3, .slice a3 n3 c3, .bool s4, .slice a4 n4 c4] t)) w.heap.size [x, y, z, u] := by
  have hb : Below w.heap.size w (w.alloc (.cells #[.bool s1, .slice a1 n1 c1, .bool s2, .slice a2 n2 c2, .bool s3, .slice a3 n3 c3, .bool s4, .slice a4 n4 c4] t)) := (Below.refl _ w).alloc (Nat.le_refl _) _
  have hc := fun i => cell_of_row (w.alloc (.cells #[.bool s1, .slice a1 n1 c1, .bool s2, .slice a2 n2 c2, .bool s3, .slice a3 n3 c3, .bool s4, .slice a4 n4 c4] t)) w.heap.size i _ t (0, 0) (heap_alloc_new w _)
  refine ⟨by simp, fun i hi => ?_⟩
  match i, hi with
  | 0, _ => exact ⟨s1, a1, n1, c1, hc 0, hc 1, h1.below hb⟩
  | 1, _ => exact ⟨s2, a2, n2, c2, hc 2, hc 3, h2.below hb⟩
  | 2, _ => exact ⟨s3, a3, n3, c3, hc 4, hc 5, h3.below hb⟩
  | 3, _ => exact ⟨s4, a4, n4, c4, hc 6, hc 7, h4.below hb⟩
theorem NRow.four {w : World} {s1 s2 s3 s4 : Bool} {a1 a2 a3 a4 : Option Addr} {n1 n2 n3 n4 c1 c2 c3 c4 : Nat} {x y z u : Int} (t : TypeId) (h1 : RInt w (.agg #[.bool s1, .slice a1 n1 c1]) x) (h2 : RInt w (.agg #[.bool s2, .slice a2 n2 c2]) y) (h3 : RInt w (.agg #[.bool s3, .slice a3 n3 c3]) z) (h4 : RInt w (.agg #[.bool s4, .slice a4 n4 c4]) u) :
    NRow (w.alloc (.cells #[.bool s1, .slice a1 n1 c1, .bool s2, .slice a2 n2 c2, .bool s3, .slice a3 n3 c3, .bool s4, .slice a4 n4 c4] t)) w.heap.size [x, y, z, u] := by
  have hb : Below w.heap.size w (w.alloc (.cells #[.bool s1, .slice a1 n1 c1, .bool s2, .slice a2 n2 c2, .bool s3, .slice a3 n3 c3, .bool s4, .slice a4 n4 c4] t)) := (Below.refl _ w).alloc (Nat.le_refl _) _
  have hc := fun i => cell_of_row (w.alloc (.cells #[.bool s1, .slice a1 n1 c1, .bool s2, .slice a2 n2 c2, .bool s3, .slice a3 n3 c3, .bool s4, .slice a4 n4 c4] t)) w.heap.size i _ t (0, 0) (heap_alloc_new w _)
  refine ⟨by simp, fun i hi => ?_⟩
  match i, hi with
  | 0, _ => exact ⟨s1, a1, n1, c1, hc 0, hc 1, h1.below (Nat.le_refl _) hb⟩
  | 1, _ => exact ⟨s2, a2, n2, c2, hc 2, hc 3, h2.below (Nat.le_refl _) hb⟩
  | 2, _ => exact ⟨s3, a3, n3, c3, hc 4, hc 5, h3.below (Nat.le_refl _) hb⟩
  | 3, _ => exact ⟨s4, a4, n4, c4, hc 6, hc 7, h4.below (Nat.le_refl _) hb⟩
/-- block g is a row of numbers -/
def IRow (w : World) (g : Nat) (zs : List Int) : Prop := g < w.heap.size ∧ ∀ i (h : i < zs.length), w.cell? ⟨g, i, none⟩ = some (.int .i64 zs[i])
theorem IRow.below {w w' : World} {g : Nat} {zs : List Int} (h : IRow w g zs) (hb : Below w.heap.size w w') : IRow w' g zs :=
  ⟨Nat.lt_of_lt_of_le h.1 hb.size, fun i hi => (hb.cell (p := ⟨g, i, none⟩) h.1).trans (h.2 i hi)⟩
theorem IRow.four (w : World) (t : TypeId) (x y z u : Int) : IRow (w.alloc (.cells #[.int .i64 x, .int .i64 y, .int .i64 z, .int .i64 u] t)) w.heap.size [x, y, z, u] := by
  have hc := fun i => cell_of_row (w.alloc (.cells #[.int .i64 x, .int .i64 y, .int .i64 z, .int .i64 u] t)) w.heap.size i _ t (0, 0) (heap_alloc_new w _)
  refine ⟨by simp, fun i hi => ?_⟩
  match i, hi with
  | 0, _ => exact hc 0
  | 1, _ => exact hc 1
  | 2, _ => exact hc 2
  | 3, _ => exact hc 3

/-- element i of a row of numbers -/
structure CAt (w : World) (g i : Nat) (z : Int) : Prop where
  lt : g < w.heap.size
  c : w.cell? ⟨g, i, none⟩ = some (.int .i64 z)
theorem CAt.below {w w' : World} {g i : Nat} {z : Int} (h : CAt w g i z) (hb : Below w.heap.size w w') : CAt w' g i z :=
  ⟨Nat.lt_of_lt_of_le h.lt hb.size, (hb.cell (p := ⟨g, i, none⟩) h.lt).trans h.c⟩
/-- element i of a row of integers of the package -/
structure WAt (w : World) (g i : Nat) (s : Bool) (a : Option Addr) (n c : Nat) (z : Int) : Prop where
  lt : g < w.heap.size
  c0 : w.cell? ⟨g, i * 2, none⟩ = some (.bool s)
  c1 : w.cell? ⟨g, i * 2 + 1, none⟩ = some (.slice a n c)
  r : WInt w (.agg #[.bool s, .slice a n c]) z
theorem WAt.below {w w' : World} {g i : Nat} {s : Bool} {a : Option Addr} {n c : Nat} {z : Int} (h : WAt w g i s a n c z) (hb : Below w.heap.size w w') : WAt w' g i s a n c z :=
  ⟨Nat.lt_of_lt_of_le h.lt hb.size, (hb.cell (p := ⟨g, i * 2, none⟩) h.lt).trans h.c0, (hb.cell (p := ⟨g, i * 2 + 1, none⟩) h.lt).trans h.c1, h.r.below hb⟩
theorem WRow.at_ {w : World} {g : Nat} {zs : List Int} (h : WRow w g zs) (i : Nat) (hi : i < zs.length) : ∃ s a n c, WAt w g i s a n c zs[i] := by
  obtain ⟨s, a, n, c, h1, h2, h3⟩ := h.2 i hi
  exact ⟨s, a, n, c, h.1, h1, h2, h3⟩
theorem lim_len6 (n m : Nat) (hL : LIM = 2 ^ m) (h : n < LIM * LIM) : (digs T4 n).length ≤ m + m := len_pow n (m + m) (by rw [hL, ← Nat.pow_add] at h; exact h)
theorem lim_list (a b c : Int) (ha : a.natAbs < LIM * 8) (hb : -3 ≤ b ∧ b ≤ 3) (hc : c.natAbs < LIM) : ∀ z ∈ [a + b, a - b, a * b, c * c], (digs T4 z.natAbs).length ≤ 1048576 := by
  have h32 : 2 ^ 5 ≤ LIM := lim_ge 5 16384 lim_eq (by omega)
  have hk : LIM * 32 ≤ LIM * LIM := Nat.mul_le_mul_left _ h32
  have key : ∀ z : Int, z.natAbs < LIM * LIM → (digs T4 z.natAbs).length ≤ 1048576 := fun z h => Nat.le_trans (lim_len6 _ 16384 lim_eq h) (by omega)
  intro z hz
  apply key
  simp only [List.mem_cons, List.not_mem_nil, or_false] at hz
  generalize hP : LIM * LIM = P at *
  rcases hz with rfl | rfl | rfl | rfl
  · omega
  · omega
  · rw [Int.natAbs_mul]
    have : a.natAbs * b.natAbs ≤ a.natAbs * 3 := Nat.mul_le_mul_left _ (by omega)
    omega
  · rw [Int.natAbs_mul, ← hP]
    exact Nat.mul_lt_mul'' hc hc

end Go.Proofs.YtgfgjnkndfgdiaaDoor
