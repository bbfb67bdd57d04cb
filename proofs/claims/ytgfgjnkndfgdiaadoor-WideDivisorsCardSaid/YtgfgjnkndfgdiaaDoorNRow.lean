/- rows of integers of the reference in memory. -/
import Derived.Test.YtgfgjnkndfgdiaaDoorWLaw
import Derived.Test.YtgfgjnkndfgdiaaDoorRegLast
set_option linter.unusedVariables false
set_option linter.unusedSimpArgs false
namespace Go.Proofs.YtgfgjnkndfgdiaaDoor
open Go.RowKit

/-- block g is a row of integers of the reference -/
def NRow (w : World) (g : Nat) (zs : List Int) : Prop :=
  g < w.heap.size ∧ ∀ i (h : i < zs.length), ∃ s a n c, w.cell? ⟨g, i * 2, none⟩ = some (.bool s) ∧ w.cell? ⟨g, i * 2 + 1, none⟩ = some (.slice a n c) ∧ RInt w (.agg #[.bool s, .slice a n c]) zs[i]

theorem NRow.below {w w' : World} {g : Nat} {zs : List Int} (h : NRow w g zs) (hb : Below w.heap.size w w') : NRow w' g zs := by
  refine ⟨Nat.lt_of_lt_of_le h.1 hb.size, fun i hi => ?_⟩
  obtain ⟨s, a, n, c, h1, h2, h3⟩ := h.2 i hi
  exact ⟨s, a, n, c, (hb.cell (p := ⟨g, i * 2, none⟩) h.1).trans h1, (hb.cell (p := ⟨g, i * 2 + 1, none⟩) h.1).trans h2, h3.below (Nat.le_refl _) hb⟩

theorem NRow.two {w : World} {s1 s2 : Bool} {a1 a2 : Option Addr} {n1 n2 c1 c2 : Nat} {x y : Int} (t : TypeId) (h1 : RInt w (.agg #[.bool s1, .slice a1 n1 c1]) x) (h2 : RInt w (.agg #[.bool s2, .slice a2 n2 c2]) y) :
    NRow (w.alloc (.cells #[.bool s1, .slice a1 n1 c1, .bool s2, .slice a2 n2 c2] t)) w.heap.size [x, y] := by
  have hb : Below w.heap.size w (w.alloc (.cells #[.bool s1, .slice a1 n1 c1, .bool s2, .slice a2 n2 c2] t)) := (Below.refl _ w).alloc (Nat.le_refl _) _
  have hc := fun i => cell_of_row (w.alloc (.cells #[.bool s1, .slice a1 n1 c1, .bool s2, .slice a2 n2 c2] t)) w.heap.size i _ t (0, 0) (heap_alloc_new w _)
  refine ⟨by simp, fun i hi => ?_⟩
  match i, hi with
  | 0, _ => exact ⟨s1, a1, n1, c1, hc 0, hc 1, h1.below (Nat.le_refl _) hb⟩
  | 1, _ => exact ⟨s2, a2, n2, c2, hc 2, hc 3, h2.below (Nat.le_refl _) hb⟩

theorem NRow.three {w : World} {s1 s2 s3 : Bool} {a1 a2 a3 : Option Addr} {n1 n2 n3 c1 c2 c3 : Nat} {x y z : Int} (t : TypeId) (h1 : RInt w (.agg #[.bool s1, .slice a1 n1 c1]) x) (h2 : RInt w (.agg #[.bool s2, .slice a2 n2 c2]) y) (h3 : RInt w (.agg #[.bool s3, .slice a3 n3 c3]) z) :
    NRow (w.alloc (.cells #[.bool s1, .slice a1 n1 c1, .bool s2, .slice a2 n2 c2, .bool s3, .slice a3 n3 c3] t)) w.heap.size [x, y, z] := by
  have hb : Below w.heap.size w (w.alloc (.cells #[.bool s1, .slice a1 n1 c1, .bool s2, .slice a2 n2 c2, .bool s3, .slice a3 n3 c3] t)) := (Below.refl _ w).alloc (Nat.le_refl _) _
  have hc := fun i => cell_of_row (w.alloc (.cells #[.bool s1, .slice a1 n1 c1, .bool s2, .slice a2 n2 c2, .bool s3, .slice a3 n3 c3] t)) w.heap.size i _ t (0, 0) (heap_alloc_new w _)
  refine ⟨by simp, fun i hi => ?_⟩
  match i, hi with
  | 0, _ => exact ⟨s1, a1, n1, c1, hc 0, hc 1, h1.below (Nat.le_refl _) hb⟩
  | 1, _ => exact ⟨s2, a2, n2, c2, hc 2, hc 3, h2.below (Nat.le_refl _) hb⟩
  | 2, _ => exact ⟨s3, a3, n3, c3, hc 4, hc 5, h3.below (Nat.le_refl _) hb⟩

/-- element i of a row -/
structure NAt (w : World) (g i : Nat) (s : Bool) (a : Option Addr) (n c : Nat) (z : Int) : Prop where
  lt : g < w.heap.size
  c0 : w.cell? ⟨g, i * 2, none⟩ = some (.bool s)
  c1 : w.cell? ⟨g, i * 2 + 1, none⟩ = some (.slice a n c)
  r : RInt w (.agg #[.bool s, .slice a n c]) z
theorem NAt.below {w w' : World} {g i : Nat} {s : Bool} {a : Option Addr} {n c : Nat} {z : Int} (h : NAt w g i s a n c z) (hb : Below w.heap.size w w') : NAt w' g i s a n c z :=
  ⟨Nat.lt_of_lt_of_le h.lt hb.size, (hb.cell (p := ⟨g, i * 2, none⟩) h.lt).trans h.c0, (hb.cell (p := ⟨g, i * 2 + 1, none⟩) h.lt).trans h.c1, h.r.below (Nat.le_refl _) hb⟩
theorem NRow.at_ {w : World} {g : Nat} {zs : List Int} (h : NRow w g zs) (i : Nat) (hi : i < zs.length) : ∃ s a n c, NAt w g i s a n c zs[i] := by
  obtain ⟨s, a, n, c, h1, h2, h3⟩ := h.2 i hi
  exact ⟨s, a, n, c, h.1, h1, h2, h3⟩

theorem smallV_form (z : Int) : ∃ m t, smallV z = .tuple #[.int .i64 m, .bool t] := by
  unfold smallV
  split
  · exact ⟨_, _, rfl⟩
  · exact ⟨_, _, rfl⟩

/-- the normal end is J; the others as they were -/
def joinQ (J : Act → World → Prop) (Q : Exit → Act → World → Prop) : Exit → Act → World → Prop
  | .normal, a, w => J a w
  | e, a, w => Q e a w

theorem joinQ_normal {J : Act → World → Prop} {Q : Exit → Act → World → Prop} {a : Act} {w : World} (h : J a w) : joinQ J Q .normal a w := h

section
variable {P : Program} {md : Region.Mode} {ops : Array Oper} {Q : Exit → Act → World → Prop} {S : World → Prop} {last : Nat}

theorem wp_join {c : Code} {tmps : Array Value} {ds : List Deferred} {w : World} (J : Array Value → List Deferred → Act → World → Prop) (h1 : c.wp P (joinQ (J tmps ds) Q) ⟨tmps, ds⟩ w) (h2 : ∀ a w, J tmps ds a w → Q .normal a w) : c.wp P Q ⟨tmps, ds⟩ w := by
  intro b k cs
  obtain ⟨e, a₁, w₁, hq, harr⟩ := h1 b k cs
  refine ⟨e, a₁, w₁, ?_, harr⟩
  cases e with
  | normal => exact h2 _ _ hq
  | _ => exact hq

def AllK (f : Nat → Prop) : List Nat → Prop
  | [] => True
  | i :: r => f i ∧ AllK f r
theorem AllK.mem {f : Nat → Prop} : ∀ {l : List Nat}, AllK f l → ∀ i ∈ l, f i
  | [], _, _, h => by cases h
  | j :: r, h, i, hi => by
    rcases List.mem_cons.1 hi with rfl | hi
    · exact h.1
    · exact AllK.mem h.2 i hi

/-- several operations may come up now, none of them the last -/
theorem forkK (rs : List Nat) {fuel : Nat} {listed : Array Bool} {a : Act} {w : World} (hr : Region.ready md ops listed = rs) (hne : rs ≠ [])
    (h : AllK (fun i => wpOp P ops Q i (fun a' w' => S w' ∧ wpAnyK P md ops Q S last fuel (listed.setIfInBounds i true) a' w') a w) rs) :
    wpAnyK P md ops Q S last (fuel + 1) listed a w := by
  refine ⟨fun h0 => absurd (hr.symm.trans h0) hne, fun j hj => ?_⟩
  rw [hr] at hj
  exact wpOp_mono (fun a' w' h' => ⟨fun _ => h'.1, h'.2⟩) (h.mem j hj)

theorem forkOne (i : Nat) {o : Oper} {fuel : Nat} {listed : Array Bool} {a : Act} {w : World} (ho : ops[i]? = some o)
    (h : ∀ K' : Act → World → Prop, Shut (∀ a w, S w → (S w → wpAnyK P md ops Q S last fuel (listed.setIfInBounds i true) a w) → K' a w) → if Region.wanted o (yielded ops a.tmps) = true then Oper.wp P o a w K' Q else K' (a.put o.dst undef) w) :
    wpOp P ops Q i (fun a' w' => S w' ∧ wpAnyK P md ops Q S last fuel (listed.setIfInBounds i true) a' w') a w :=
  wpOp_step ho (fun K' hK => h K' (fun a w hS hW => hK a w ⟨hS, hW hS⟩))
end

end Go.Proofs.YtgfgjnkndfgdiaaDoor
