/- A region that draws its order: operations that may come up in any order are met once each, by a relation on what has come up. -/
import Derived.Test.YtlmbebbdamgfpaaQURegLate
set_option linter.unusedVariables false
set_option linter.unusedSimpArgs false
namespace Go.Proofs.Ytlmbebbdamgfpaa
open Go

section
variable {P : Program} {md : Region.Mode} {ops : Array Oper} {Q : Exit → Act → World → Prop} {S : World → Prop} {late : List Nat}

/-- those of L that p names have come up too -/
def lstF (listed : Array Bool) (p : Nat → Bool) : List Nat → Array Bool
 | [] => listed
 | i :: r => if p i then (lstF listed p r).setIfInBounds i true else lstF listed p r
theorem lstF_congr {listed : Array Bool} {p q : Nat → Bool} : ∀ {L : List Nat}, (∀ j ∈ L, p j = q j) → lstF listed p L = lstF listed q L
 | [], _ => rfl
 | i :: r, h => by
  unfold lstF
  rw [h i List.mem_cons_self, lstF_congr (L := r) (fun j hj => h j (List.mem_cons_of_mem _ hj))]
theorem lstF_set {listed : Array Bool} {p : Nat → Bool} {i : Nat} : ∀ {L : List Nat}, i ∈ L → lstF listed (fun j => j == i || p j) L = (lstF listed p L).setIfInBounds i true
 | [], h => by cases h
 | a :: r, h => by
  unfold lstF
  by_cases e : a = i
  ·subst e
   rw [if_pos (by simp)]
   by_cases hr : a ∈ r
   ·rw [lstF_set hr]
    split
    ·rw [Array.setIfInBounds_setIfInBounds]
    ·rw [Array.setIfInBounds_setIfInBounds]
   ·rw [lstF_congr (q := p) (fun j hj => by simp [show j ≠ a from fun h9 => hr (h9 ▸ hj)])]
    split
    ·rw [Array.setIfInBounds_setIfInBounds]
    ·rfl
  ·have hr : i ∈ r := (List.mem_cons.1 h).resolve_left (Ne.symm e)
   rw [lstF_set hr]
   simp only [beq_iff_eq, e, Bool.or_eq_true, false_or]
   split
   ·rw [Array.setIfInBounds_comm _ _ (Ne.symm e)]
   ·rfl
def subsF : List Nat → List (List Nat)
 | [] => [[]]
 | a :: r => subsF r ++ (subsF r).map (a :: ·)
theorem filter_subsF (p : Nat → Bool) : ∀ L : List Nat, L.filter p ∈ subsF L
 | [] => by simp [subsF]
 | a :: r => by
  unfold subsF
  rw [List.filter_cons, List.mem_append]
  split
  ·exact Or.inr (List.mem_map.2 ⟨_, filter_subsF p r, rfl⟩)
  ·exact Or.inl (filter_subsF p r)
/-- whatever of L has come up (behind what it waits for): what may come up now is of L, not yet there, behind what it waits for -/
def freeB (md : Region.Mode) (ops : Array Oper) (listed : Array Bool) (L : List Nat) (dep : List (Nat × Nat)) : Bool := (subsF L).all fun l =>
 !(dep.all fun d => !(l.contains d.1) || l.contains d.2) || (L.all l.contains) ||
  (let r := Region.ready md ops (lstF listed l.contains L); !r.isEmpty && r.all fun i => L.contains i && !l.contains i && !late.contains i && dep.all fun d => !(d.1 == i) || l.contains d.2)
theorem freeL (L : List Nat) (dep : List (Nat × Nat)) (n : Nat) (J : Array Value → List Deferred → (Nat → Bool) → Act → World → Prop) {f : Nat} {listed : Array Bool} {tmps : Array Value} {ds : List Deferred} {w : World}
 (h0 : J tmps ds (fun _ => false) ⟨tmps, ds⟩ w) (hb : freeB (late := late) md ops listed L dep = true := by kernel_rfl) (hn : L.Nodup := by decide) (hl : L.length = n := by rfl) (hd : dep.all (fun d => L.contains d.1 && L.contains d.2) = true := by rfl)
 (hstep : AllL (fun i => ∀ p a w, J tmps ds p a w → (∀ d, (i, d) ∈ dep → p d = true) → wpOp P ops Q i (fun a' w' => S w' ∧ J tmps ds (fun j => j == i || p j) a' w') a w) L)
 (hfin : ∀ p a w, J tmps ds p a w → (∀ j ∈ L, p j = true) → wpAnyL P md ops Q S late f (lstF listed (fun _ => true) L) a w) : wpAnyL P md ops Q S late (f + n) listed ⟨tmps, ds⟩ w := by
 have key : ∀ (k : Nat) (p : Nat → Bool) (a : Act) (w : World), (L.filter (fun j => !p j)).length = k → (∀ d ∈ dep, p d.1 = true → p d.2 = true) → J tmps ds p a w → wpAnyL P md ops Q S late (f + k) (lstF listed p L) a w := by
  intro k
  induction k with
  | zero =>
   intro p a w hk _ hJ
   have hp : ∀ j ∈ L, p j = true := fun j hj => by
    have := List.filter_eq_nil_iff.1 (List.length_eq_zero_iff.1 hk) j hj
    simpa using this
   rw [lstF_congr (q := fun _ => true) hp]
   exact hfin p a w hJ hp
  | succ k ih =>
   intro p a w hk hc hJ
   have hm := filter_subsF p L
   obtain ⟨l, hl'⟩ : ∃ l, L.filter p = l := ⟨_, rfl⟩
   have hlp : ∀ j ∈ L, l.contains j = p j := fun j hj => by
    rw [← hl']
    cases hpj : p j
    ·rw [List.contains_eq_mem, decide_eq_false_iff_not, List.mem_filter]
     rintro ⟨_, h9⟩
     rw [hpj] at h9
     cases h9
    ·rw [List.contains_eq_mem, decide_eq_true_iff, List.mem_filter]
     exact ⟨hj, hpj⟩
   rw [hl'] at hm
   have h1 := List.all_eq_true.1 hb l hm
   have hdL : ∀ d ∈ dep, d.1 ∈ L ∧ d.2 ∈ L := fun d hd' => by
    have := List.all_eq_true.1 hd d hd'
    simpa using this
   have c1 : (dep.all fun d => !(l.contains d.1) || l.contains d.2) = true := List.all_eq_true.2 fun d hd' => by
    rw [hlp _ (hdL d hd').1, hlp _ (hdL d hd').2]
    cases hp1 : p d.1
    ·rfl
    ·rw [hc d hd' hp1]; rfl
   have c2 : (L.all l.contains) = false := by
    rw [Bool.eq_false_iff]
    intro h9
    have : L.filter (fun j => !p j) = [] := List.filter_eq_nil_iff.2 fun j hj => by
     have := List.all_eq_true.1 h9 j hj
     rw [hlp j hj] at this
     simp [this]
    rw [this] at hk
    cases hk
   rw [c1, c2, lstF_congr (q := p) hlp] at h1
   simp only [Bool.not_true, Bool.or_self, Bool.false_or, Bool.and_eq_true, List.all_eq_true, Bool.not_eq_true', List.isEmpty_eq_false_iff] at h1
   obtain ⟨r1, r2⟩ := h1
   refine ⟨fun h9 => absurd h9 r1, fun i hi => ?_⟩
   obtain ⟨⟨⟨k1, k2⟩, k3⟩, k4⟩ := r2 i hi
   have hiL : i ∈ L := by simpa using k1
   have hpi : p i = false := by rw [← hlp i hiL]; exact k2
   have hdi : ∀ d, (i, d) ∈ dep → p d = true := fun d hd' => by
    have := k4 (i, d) hd'
    rw [hlp d (hdL _ hd').2] at this
    simpa using this
   refine wpOp_mono (fun a' w' h9 => ⟨fun _ _ => h9.1, ?_⟩) (hstep.mem i hiL p a w hJ hdi)
   rw [← lstF_set hiL]
   refine ih _ a' w' ?_ (fun d hd' h8 => ?_) h9.2
   ·have e1 : L.filter (fun j => !(j == i || p j)) = (L.filter (fun j => !p j)).erase i := by
     rw [List.Nodup.erase_eq_filter (hn.filter _), List.filter_filter]
     refine List.filter_congr fun j _ => ?_
     cases hji : (j == i) <;> cases hpj : p j <;> simp_all
    rw [e1, List.length_erase_of_mem (List.mem_filter.2 ⟨hiL, by simp [hpi]⟩), hk]
    rfl
   ·simp only [Bool.or_eq_true, beq_iff_eq] at h8 ⊢
    rcases h8 with h8 | h8
    ·exact Or.inr (hdi d.2 (h8 ▸ hd'))
    ·exact Or.inr (hc d hd' h8)
 have e0 : lstF listed (fun _ => false) L = listed := by
  clear hb hstep hfin key hl hn hd
  induction L with
  | nil => rfl
  | cons i r ih => exact ih
 have := key n (fun _ => false) ⟨tmps, ds⟩ w (by rw [show (L.filter (fun _ => !false)) = L from List.filter_eq_self.2 (fun _ _ => rfl)]; exact hl) (fun _ _ h => by cases h) h0
 rwa [e0] at this
theorem freeOne (i : Nat) {o : Oper} {J : Act → World → Prop} {a : Act} {w : World} (ho : ops[i]? = some o)
 (h : ∀ K' : Act → World → Prop, Shut (∀ a w, S w → J a w → K' a w) → if Region.wanted o (yielded ops a.tmps) = true then Oper.wp P o a w K' Q else K' (a.put o.dst undef) w) :
 wpOp P ops Q i (fun a' w' => S w' ∧ J a' w') a w :=
 wpOp_step ho (fun K' hK => h K' (fun a w hS hW => hK a w ⟨hS, hW⟩))
end

end Go.Proofs.Ytlmbebbdamgfpaa
