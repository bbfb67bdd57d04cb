/- Drawn regions: several operations that may come up next; ways joined. -/
import Derived.Test.YtfpcgjgkbniofaaGreatDoorRegLast
set_option linter.unusedVariables false
set_option linter.unusedSimpArgs false
namespace Go.Proofs.YtfpcgjgkbniofaaGreatDoor
open Go

/-- the normal end is J; the others as they were -/
def joinQ (J : Act → World → Prop) (Q : Exit → Act → World → Prop) : Exit → Act → World → Prop
  | .normal, a, w => J a w
  | e, a, w => Q e a w

theorem joinQ_normal {J : Act → World → Prop} {Q : Exit → Act → World → Prop} {a : Act} {w : World} (h : J a w) : joinQ J Q .normal a w := h

section
variable {P : Program} {md : Region.Mode} {ops : Array Oper} {Q : Exit → Act → World → Prop} {S : World → Prop} {last : Nat}

theorem wp_join {c : Code} {tmps : Array Value} {ds : List Deferred} {w : World} (J : Array Value → List Deferred → Act → World → Prop) (h1 : c.wp P (joinQ (J tmps ds) Q) ⟨tmps, ds⟩ w) (h2 : ∀ a w, J tmps ds a w → Q .normal a w) : c.wp P Q ⟨tmps, ds⟩ w := by
  intro b k cs
  obtain ⟨e, a₁, w₁, hq, harr⟩ := h1 b k cs
  refine ⟨e, a₁, w₁, ?_, harr⟩
  cases e with
  | normal => exact h2 _ _ hq
  | _ => exact hq

def AllK (f : Nat → Prop) : List Nat → Prop
  | [] => True
  | i :: r => f i ∧ AllK f r
theorem AllK.mem {f : Nat → Prop} : ∀ {l : List Nat}, AllK f l → ∀ i ∈ l, f i
  | [], _, _, h => by cases h
  | j :: r, h, i, hi => by
    rcases List.mem_cons.1 hi with rfl | hi
    · exact h.1
    · exact AllK.mem h.2 i hi

/-- several operations may come up now, none of them the last -/
theorem forkK (rs : List Nat) {fuel : Nat} {listed : Array Bool} {a : Act} {w : World} (hr : Region.ready md ops listed = rs) (hne : rs ≠ [])
    (h : AllK (fun i => wpOp P ops Q i (fun a' w' => S w' ∧ wpAnyK P md ops Q S last fuel (listed.setIfInBounds i true) a' w') a w) rs) :
    wpAnyK P md ops Q S last (fuel + 1) listed a w := by
  refine ⟨fun h0 => absurd (hr.symm.trans h0) hne, fun j hj => ?_⟩
  rw [hr] at hj
  exact wpOp_mono (fun a' w' h' => ⟨fun _ => h'.1, h'.2⟩) (h.mem j hj)

theorem forkOne (i : Nat) {o : Oper} {fuel : Nat} {listed : Array Bool} {a : Act} {w : World} (ho : ops[i]? = some o)
    (h : ∀ K' : Act → World → Prop, Shut (∀ a w, S w → (S w → wpAnyK P md ops Q S last fuel (listed.setIfInBounds i true) a w) → K' a w) → if Region.wanted o (yielded ops a.tmps) = true then Oper.wp P o a w K' Q else K' (a.put o.dst undef) w) :
    wpOp P ops Q i (fun a' w' => S w' ∧ wpAnyK P md ops Q S last fuel (listed.setIfInBounds i true) a' w') a w :=
  wpOp_step ho (fun K' hK => h K' (fun a w hS hW => hK a w ⟨hS, hW hS⟩))
end

end Go.Proofs.YtfpcgjgkbniofaaGreatDoor
