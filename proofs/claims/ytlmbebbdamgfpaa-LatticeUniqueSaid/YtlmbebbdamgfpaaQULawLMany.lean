/- worldmintlaw06.LatticeMany. -/
import Derived.Test.YtlmbebbdamgfpaaQULLive
import Derived.Test.YtlmbebbdamgfpaaQURef01
set_option linter.unusedVariables false
set_option linter.unusedSimpArgs false
set_option linter.unusedVariables false
set_option linter.unusedSimpArgs false
namespace Go.Proofs.Ytlmbebbdamgfpaa
open Go.RowKit

theorem elemIs : Elem Try.prog 23 22 1 24 := Elem.mk (z := .slice none 0 0) Try.underlying23 (by kernel_rfl) rfl (by decide)
theorem MatAt.of_own {w : World} {base : Nat} {v : Value} {l : List (Nat × Nat)} {M : List (List Int)} (h : w.ownsRow base 22 1 v l.length (l.map rwI)) (hr : IntsIn w l M) (hc : ∀ r ∈ M, r.length ≤ 9223372036854775807) : MatAt w v M := by
 refine SliceOf.of_own (css := l.map (fun x => [rwI x])) (base := base) (e := 22) (by rw [flatten_one, List.length_map]; exact h) (fun cs h => by obtain ⟨x, _, rfl⟩ := List.mem_map.1 h; rfl) (by rw [List.length_map]; exact hr.len.symm) (fun j h1 h2 => ?_)
 have h3 : j < l.length := by rw [← hr.len]; exact h1
 obtain ⟨k1, k2⟩ := hr.row j h3
 rw [List.getElem_map]
 refine ⟨_, rfl, ?_⟩
 have := ints_of_blk k1 (Nat.le_refl _) (hc _ (List.getElem_mem _))
 rw [k2] at this
 exact this
theorem IntsIn.only' {w w' : World} {S : Nat → Prop} {l : List (Nat × Nat)} {M : List (List Int)} (h : IntsIn w l M) (ho : Only S w w') (hr : ∀ i (hi : i < l.length), ¬ S l[i].1) : IntsIn w' l M := ⟨h.len, fun i hi => ⟨(h.row i hi).1.only ho (hr i hi), (h.row i hi).2⟩⟩
theorem own_ne_ints {w : World} {base n g b : Nat} {v : Value} {xs cs : List Value} (h : w.ownsRow base 22 1 v n xs) (hb : v.ownBlock = some b) (hr : BlkC w g 3 cs) : g ≠ b := by
 rintro rfl
 rcases h.2 with ⟨hv, _⟩ | ⟨g', cap, cur, hv, _, hg, _⟩
 ·rw [hv] at hb; cases hb
 ·rw [hv] at hb
  simp only [Value.ownBlock, Option.some.injEq] at hb
  subst hb
  unfold BlkC at hr
  rw [hr] at hg
  injection hg with hg
  injection hg with _ hg2 _
  exact absurd hg2 (by decide)
theorem owns_below {w w' : World} {base k n : Nat} {e : TypeId} {v : Value} {xs : List Value} (hB : Below w.heap.size w w') (h : w.ownsRow base e k v n xs) : w'.ownsRow base e k v n xs := (Only.of_below (S := fun _ => False) hB).own h (fun _ _ h => h)
end Go.Proofs.Ytlmbebbdamgfpaa
