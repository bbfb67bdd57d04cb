/- wide: Int: signed, limited, From, Mul, Neg. -/
import Derived.Test.YtfpcgjgkbniofaaGreatDoorWTimes
import Derived.Deep.RegionHeld3
namespace Go.Proofs.YtfpcgjgkbniofaaGreatDoor
open Go.RowKit

def LIM : Nat := 2 ^ 16384
theorem lim_w2 : W2 ^ 512 = LIM := by decide +kernel
theorem lim_eq : LIM = 2 ^ 16384 := by unfold LIM; with_reducible rfl
attribute [irreducible] LIM

theorem lim_len (n : Nat) : (digs W2 n).length ≤ 512 ↔ n < LIM := by
  rw [← lim_w2]
  constructor
  · intro h
    rcases Nat.lt_or_ge n (W2 ^ 512) with h1 | h1
    · exact h1
    · have := digs_len_ge W2 w2_two 512 n h1; omega
  · exact digs_len_le W2 w2_two 512 n

/-- an integer of the package -/
def WInt (w : World) (v : Value) (z : Int) : Prop := ∃ vw, v = .agg #[.bool (decide (z < 0)), vw] ∧ MagAt w vw z.natAbs

theorem WInt.below {w w' : World} {v : Value} {z : Int} (h : WInt w v z) (hb : Below w.heap.size w w') : WInt w' v z := by
  obtain ⟨vw, hv, hm⟩ := h
  exact ⟨vw, hv, hm.below (Nat.le_refl _) hb⟩

theorem WInt.below' {w w' : World} {v : Value} {z : Int} {B : Nat} (h : WInt w v z) (hB : w.heap.size ≤ B) (hb : Below B w w') : WInt w' v z := by
  obtain ⟨vw, hv, hm⟩ := h
  exact ⟨vw, hv, hm.below hB hb⟩

theorem WInt.mk {w : World} {b : Bool} {vw : Value} {z : Int} (hb : decide (z < 0) = b) (hm : MagAt w vw z.natAbs) : WInt w (.agg #[.bool b, vw]) z := ⟨vw, by rw [hb], hm⟩
theorem WInt.form {w : World} {v : Value} {z : Int} (h : WInt w v z) : ∃ a n cap, v = .agg #[.bool (decide (z < 0)), .slice a n cap] ∧ MagAt w (.slice a n cap) z.natAbs := by
  obtain ⟨vw, hv, hm⟩ := h
  have hm' := hm
  obtain ⟨a, cap, rfl, _⟩ := hm
  exact ⟨a, _, cap, hv, hm'⟩

def sgn (neg : Bool) (n : Nat) : Int := if neg then -(n : Int) else n
theorem sgn_natAbs (neg : Bool) (n : Nat) : (sgn neg n).natAbs = n := by unfold sgn; cases neg <;> simp
theorem sgn_neg (neg : Bool) (n : Nat) : decide (sgn neg n < 0) = (neg && decide (0 < n)) := by
  unfold sgn; cases neg <;> simp

set_option maxHeartbeats 1000000 in
theorem signed_any (neg : Bool) (vw : Value) (n : Nat) (w : World) (h : MagAt w vw n) :
    Calls Tryz.prog 115 #[.bool neg, vw] w fun e w' => e = .returned (.agg #[.bool (decide (sgn neg n < 0)), vw]) ∧ Below w.heap.size w w' := by
  obtain ⟨a, cap, rfl, h1, h2, hcc⟩ := h
  clear hcc
  have hpos : decide (0 < (digs W2 n).length) = decide (0 < n) := by
    by_cases h0 : n = 0
    · subst h0; rfl
    · have := List.length_pos_iff.2 (fun h => h0 ((digs_nil W2 n w2_two).1 h))
      simp only [this, decide_true, Nat.pos_of_ne_zero h0]
  rw [sgn_neg]
  obtain ⟨N, hN⟩ : ∃ N, (digs W2 n).length = N := ⟨_, rfl⟩
  rw [hN] at hpos h1 ⊢
  clear hN
  by_cases h0 : 0 < N
  · have hp : decide (0 < n) = true := by rw [← hpos]; simpa using h0
    rw [hp, Bool.and_true]
    clear hp hpos
    cases neg
    all_goals
      go_enter Tryz.func115, Tryz.ntmps115
      go_wp2
      exact bodyPost_ret (by simp [results, Tryz.results115, go_sem]) rfl ⟨rfl, (Below.refl _ _).alloc (Nat.le_refl _) _⟩
  · obtain rfl : N = 0 := by omega
    have hp : decide (0 < n) = false := by rw [← hpos]; rfl
    rw [hp, Bool.and_false]
    clear hp hpos
    cases neg
    all_goals
      go_enter Tryz.func115, Tryz.ntmps115
      go_wp2
      exact bodyPost_ret (by simp [results, Tryz.results115, go_sem]) rfl ⟨rfl, (Below.refl _ _).alloc (Nat.le_refl _) _⟩

/-- block b is the two cells x, y -/
def Two (w : World) (b : Nat) (t : TypeId) (x y : Value) : Prop := w.heap[b]? = some (.cells #[x, y] t (0, 0))
section
variable {w w' : World} {b : Nat} {t : TypeId} {x y : Value}
theorem Two.lt (h : Two w b t x y) : b < w.heap.size := by
  rcases Nat.lt_or_ge b w.heap.size with hlt | hge
  · exact hlt
  · unfold Two at h; rw [Array.getElem?_eq_none hge] at h; cases h
theorem Two.cell0 (h : Two w b t x y) : w.cell? ⟨b, 0, none⟩ = some x := by rw [cell_of_row w b 0 _ t (0, 0) h]; rfl
theorem Two.cell1 (h : Two w b t x y) : w.cell? ⟨b, 1, none⟩ = some y := by rw [cell_of_row w b 1 _ t (0, 0) h]; rfl
theorem Two.frozen (h : Two w b t x y) (i : Nat) : w.frozen? ⟨b, i, none⟩ = false := by
  unfold Two at h
  simp [World.frozen?, h]
theorem Two.below {B : Nat} (h : Two w b t x y) (hb : Below B w w') (hg : b < B) : Two w' b t x y := (hb.block b hg).trans h
theorem Two.new (w : World) (t : TypeId) (x y : Value) : Two (w.alloc (.cells #[x, y] t)) w.heap.size t x y := heap_alloc_new w _
theorem Two.alloc (h : Two w b t x y) (o : Obj) : Two (w.alloc o) b t x y := (Below.heap_alloc w o b h.lt).trans h
end

/-- what limited answers: the integer, or ErrLimit -/
def LimPost (z : Int) (w : World) (e : Ending) (w' : World) : Prop :=
  Below w.heap.size w w' ∧ ((z.natAbs < LIM ∧ ∃ v, e = .returned (.tuple #[v, .int .i64 0]) ∧ WInt w' v z) ∨ (LIM ≤ z.natAbs ∧ e = .returned (.tuple #[.agg #[.bool false, .slice none 0 0], .int .i64 4])))

set_option maxHeartbeats 1000000 in
theorem limited_any (neg : Bool) (vw : Value) (n : Nat) (w : World) (h : MagAt w vw n) (hlen : (digs W2 n).length ≤ 4194304) :
    Calls Tryz.prog 113 #[.bool neg, vw] w (LimPost (sgn neg n) w) := by
  have Hm := Lib.hid h
  have hlim := lim_len n
  have hab := sgn_natAbs neg n
  obtain ⟨a, cap, rfl, h1, h2, hcc⟩ := h
  clear hcc
  have Hl := Lib.hid (Classical.em (n < LIM))
  have Hab := Lib.hid hab
  clear hab
  by_cases hl : n < LIM
  · have hle := hlim.2 hl
    have Hl := Lib.hid hl
    clear hlim hl
    have Hs := Lib.hid (fun w' (hb : Below w.heap.size w w') => signed_any neg _ n w' (Hm.out.below (Nat.le_refl _) hb))
    have HBa := Lib.hid ((Below.refl w.heap.size w).alloc (Nat.le_refl _) (.cells #[.bool false, .slice none 0 0] 85))
    have HT := Lib.hid (Two.new w 85 (.bool false) (.slice none 0 0))
    generalize (digs W2 n).length = N at *
    go_enter Tryz.func113, Tryz.ntmps113
    go_wp2_with fail
    refine (Hs.out _ HBa.out).mono ?_
    rintro e w1 ⟨rfl, hB⟩
    have hT1 := HT.out.below hB (by simp)
    have c0 := hT1.cell0
    have c1 := hT1.cell1
    have f0 := hT1.frozen 0
    have f1 := hT1.frozen 1
    have HB1 := Lib.hid (HBa.out.trans (hB.mono (by simp)))
    clear hT1 hB
    go_wp2
    refine bodyPost_ret (v := .tuple #[.agg #[.bool (decide (sgn neg n < 0)), .slice a N cap], .int .i64 0]) (by simp [results, Tryz.results113, go_sem, c0, c1]) rfl ⟨(HB1.out.setCell (p := ⟨w.heap.size, 0, none⟩) (Nat.le_refl _) _).setCell (p := ⟨w.heap.size, 1, none⟩) (Nat.le_refl _) _, .inl ⟨by rw [Hab.out]; exact Hl.out, _, rfl, _, rfl, ?_⟩⟩
    rw [Hab.out]
    exact Hm.out.below (Nat.le_refl _) ((HB1.out.setCell (p := ⟨w.heap.size, 0, none⟩) (Nat.le_refl _) _).setCell (p := ⟨w.heap.size, 1, none⟩) (Nat.le_refl _) _)
  · have hgt : ¬ (digs W2 n).length ≤ 512 := fun h => hl (hlim.1 h)
    have Hl := Lib.hid hl
    clear hl hlim
    generalize (digs W2 n).length = N at *
    go_enter Tryz.func113, Tryz.ntmps113
    go_wp2
    refine bodyPost_ret (v := .tuple #[.agg #[.bool false, .slice none 0 0], .int .i64 4]) (by simp [results, Tryz.results113, go_sem]) rfl ⟨(Below.refl _ _).alloc (Nat.le_refl _) _, .inr ⟨by rw [Hab.out]; exact Nat.le_of_not_lt Hl.out, rfl⟩⟩

theorem limited_ok (neg : Bool) (vw : Value) (n : Nat) (w : World) (h : MagAt w vw n) (hn : n < LIM) :
    Calls Tryz.prog 113 #[.bool neg, vw] w fun e w' => ∃ a l cap, e = .returned (.tuple #[.agg #[.bool (decide (sgn neg n < 0)), .slice a l cap], .int .i64 0]) ∧ MagAt w' (.slice a l cap) n ∧ Below w.heap.size w w' := by
  have hlen := (lim_len n).2 hn
  refine (limited_any neg vw n w h (by omega)).mono ?_
  rintro e w' ⟨hB, ⟨_, v, rfl, hW⟩ | ⟨hl, rfl⟩⟩
  · obtain ⟨a, l, cap, rfl, hm⟩ := hW.form
    rw [sgn_natAbs] at hm
    exact ⟨a, l, cap, rfl, hm, hB⟩
  · rw [sgn_natAbs] at hl; omega

theorem limited_big (neg : Bool) (vw : Value) (n : Nat) (w : World) (h : MagAt w vw n) (hn : LIM ≤ n) (hlen : (digs W2 n).length ≤ 4194304) :
    Calls Tryz.prog 113 #[.bool neg, vw] w fun e w' => e = .returned (.tuple #[.agg #[.bool false, .slice none 0 0], .int .i64 4]) ∧ Below w.heap.size w w' := by
  refine (limited_any neg vw n w h hlen).mono ?_
  rintro e w' ⟨hB, ⟨hl, v, rfl, hW⟩ | ⟨hl, rfl⟩⟩
  · rw [sgn_natAbs] at hl; omega
  · exact ⟨rfl, hB⟩

/-- two integers and a result, boxed -/
theorem boxes3 (w : World) (t : TypeId) (x1 x2 y1 y2 z1 z2 : Value) (n : Nat) (hn : w.heap.size = n) : ∃ W, ((w.alloc (.cells #[x1, x2] t)).alloc (.cells #[y1, y2] t)).alloc (.cells #[z1, z2] t) = W ∧
    Two W n t x1 x2 ∧ Two W (n + 1) t y1 y2 ∧ Two W (n + 1 + 1) t z1 z2 ∧ Below n w W ∧ W.heap.size = n + 1 + 1 + 1 := by
  subst hn
  refine ⟨_, rfl, ((Two.new w t x1 x2).alloc _).alloc _, ?_, ?_, (((Below.refl w.heap.size w).alloc (Nat.le_refl _) _).alloc (by simp) _).alloc (by simp; omega) _, by simp⟩
  · have := (Two.new (w.alloc (.cells #[x1, x2] t)) t y1 y2).alloc (.cells #[z1, z2] t)
    rw [World.size_alloc] at this
    exact this
  · have := Two.new ((w.alloc (.cells #[x1, x2] t)).alloc (.cells #[y1, y2] t)) t z1 z2
    rw [World.size_alloc, World.size_alloc] at this
    exact this

/-- the boxed operands lie as they lay -/
def Held4 (n : Nat) (x1 x2 y1 y2 : Value) (w : World) : Prop := w.cell? ⟨n, 0, none⟩ = some x1 ∧ w.cell? ⟨n, 1, none⟩ = some x2 ∧ w.cell? ⟨n + 1, 0, none⟩ = some y1 ∧ w.cell? ⟨n + 1, 1, none⟩ = some y2
theorem Held4.below {n : Nat} {x1 x2 y1 y2 : Value} {w w' : World} (h : Held4 n x1 x2 y1 y2 w) (hb : Below w.heap.size w w') (hs : n + 1 + 1 + 1 ≤ w.heap.size) : Held4 n x1 x2 y1 y2 w' ∧ n + 1 + 1 + 1 ≤ w'.heap.size :=
  ⟨⟨(hb.cell (p := ⟨n, 0, none⟩) (by show n < _; omega)).trans h.1, (hb.cell (p := ⟨n, 1, none⟩) (by show n < _; omega)).trans h.2.1, (hb.cell (p := ⟨n + 1, 0, none⟩) (by show n + 1 < _; omega)).trans h.2.2.1, (hb.cell (p := ⟨n + 1, 1, none⟩) (by show n + 1 < _; omega)).trans h.2.2.2⟩, by have := hb.size; omega⟩

theorem Held4.set2 {n : Nat} {x1 x2 y1 y2 : Value} {w : World} (h : Held4 n x1 x2 y1 y2 w) (u1 u2 : Value) : Held4 n x1 x2 y1 y2 ((w.setCell ⟨n + 1 + 1, 0, none⟩ u1).setCell ⟨n + 1 + 1, 1, none⟩ u2) := by
  have e : ∀ b o, b ≠ n + 1 + 1 → ((w.setCell ⟨n + 1 + 1, 0, none⟩ u1).setCell ⟨n + 1 + 1, 1, none⟩ u2).cell? ⟨b, o, none⟩ = w.cell? ⟨b, o, none⟩ := fun b o hb => by
    rw [World.cell?_setCell_other _ _ _ _ (by intro e; injection e; omega), World.cell?_setCell_other _ _ _ _ (by intro e; injection e; omega)]
  exact ⟨(e _ _ (by omega)).trans h.1, (e _ _ (by omega)).trans h.2.1, (e _ _ (by omega)).trans h.2.2.1, (e _ _ (by omega)).trans h.2.2.2⟩

/-- a store into a result's two cells leaves a row of numbers alone -/
theorem RowAt.store_two {k : IntKind} {w : World} {v : Value} {L : List Nat} {g : Nat} {t : TypeId} {x y : Value} (h : RowAt k w v L) (ht : Two w g t x y) (hx : ∀ k i, x ≠ .int k i) (hy : ∀ k i, y ≠ .int k i) (u1 u2 : Value) :
    RowAt k ((w.setCell ⟨g, 0, none⟩ u1).setCell ⟨g, 1, none⟩ u2) v L := by
  obtain ⟨a, cap, hv, h1, h2, hc⟩ := h
  refine ⟨a, cap, hv, h1, h2, fun h0 => ?_⟩
  obtain ⟨b, off, ha, hlt, hcc⟩ := hc h0
  have hne : b ≠ g := by
    rintro rfl
    have h3 := hcc 0 h0
    rw [cell_of_row w b (off + 0) _ t (0, 0) ht] at h3
    match off, h3 with
    | 0, h3 => simp at h3; exact hx _ _ h3
    | 1, h3 => simp at h3; exact hy _ _ h3
    | o + 2, h3 => simp at h3
  have hsz : ((w.setCell ⟨g, 0, none⟩ u1).setCell ⟨g, 1, none⟩ u2).heap.size = w.heap.size := by simp [World.setCell]
  refine ⟨b, off, ha, by rw [hsz]; exact hlt, fun j hj => ?_⟩
  rw [World.cell?_setCell_other _ _ _ _ (by intro e; injection e; omega), World.cell?_setCell_other _ _ _ _ (by intro e; injection e; omega)]
  exact hcc j hj

end Go.Proofs.YtfpcgjgkbniofaaGreatDoor
