/- wide: subtract. -/
import Derived.Deep.RegionHeld3
import Derived.Lib.Hide
import Derived.Test.YtlmbebbdamgfpaaQJLMat
import Derived.Test.YtlmbebbdamgfpaaQJWTimes
import Derived.Maps.AppendAt
import Derived.Scope
import Derived.IntWalk
set_option linter.unusedVariables false
set_option linter.unusedSimpArgs false
set_option maxHeartbeats 4000000
set_option maxRecDepth 100000
namespace Go.Proofs.Ytlmbebbdamgfpaa
open Go
section
variable {P : Program} {md : Region.Mode} {ops : Array Oper} {Q : Exit -> Act -> World -> Prop} {S : World -> Prop} {late : List Nat}
def qAz (P : Program) (md : Region.Mode) (ops : Array Oper) (Q : Exit -> Act -> World -> Prop) (S : World -> Prop) (late : List Nat) : Nat -> Array Bool -> Act -> World -> Prop
 | 0, listed, a, w => Region.ready md ops listed = [] /\ Q .normal a w
 | fuel + 1, listed, a, w =>
  (Region.ready md ops listed = [] -> Q .normal a w) /\
  ∀ i ∈ Region.ready md ops listed, wpOp P ops Q i (fun a' w' => (i ∉ late -> S w -> S w') /\ qAz P md ops Q S late fuel (listed.setIfInBounds i true) a' w') a w
theorem qEr : ∀ (fuel : Nat) (listed : Array Bool) (a : Act) (w : World), qAz P md ops Q S late fuel listed a w -> wpAny P md ops Q fuel listed a w
 | 0, _, _, _, h => h
 | fuel + 1, _, _, _, h => ⟨h.1, fun i hi => wpOp_mono (fun a' w' h' => qEr fuel _ a' w' h'.2) (h.2 i hi)⟩
def qFr (md : Region.Mode) (ops : Array Oper) (i : Nat) : Nat -> Nat -> Bool
 | 0, _ => false
 | f + 1, l => match ops[l]? with
  | some o => o.after.any fun e => Region.binds md e && (e.on == i || qFr md ops i f e.on)
  | none => false
def qEi (md : Region.Mode) (ops : Array Oper) (listed : Array Bool) : Prop := ∀ j, listed.getD j false = true -> ∀ o, ops[j]? = some o -> ∀ e ∈ o.after, Region.binds md e = true -> listed.getD e.on false = true
def qCU (md : Region.Mode) (ops : Array Oper) (listed : Array Bool) : Bool := (List.range ops.size).all fun j => !(listed.getD j false) || match ops[j]? with
 | some o => o.after.all fun e => !(Region.binds md e) || listed.getD e.on false
 | none => true
theorem qGa {listed : Array Bool} (h : qCU md ops listed = true) : qEi md ops listed := by
 intro j hj o ho e he hb; unfold qCU at h; rw [List.all_eq_true] at h; have h1 := h j (by rw [List.mem_range]; exact (Array.getElem?_eq_some_iff.1 ho).1); rw [hj, ho] at h1; simp only [Bool.not_true, Bool.false_or, Array.all_eq_true_iff_forall_mem] at h1; have h2 := h1 e he; rw [hb] at h2; simpa using h2
theorem qEi.set {listed : Array Bool} {i : Nat} (h : qEi md ops listed) (hr : i ∈ Region.ready md ops listed) : qEi md ops (listed.setIfInBounds i true) := by
 intro j hj o ho e he hb; by_cases hij : i = j
 ·subst hij
  obtain ⟨_, o', ho', hall⟩ := mem_ready.1 hr; rw [ho] at ho'; injection ho' with ho'; subst ho'; exact getD_set_true (hall e he hb)
 ·rw [getD_set_ne false hij] at hj
  exact getD_set_true (h j hj o ho e he hb)
theorem qCV {i : Nat} {listed : Array Bool} (hc : qEi md ops listed) : ∀ (f l : Nat), qFr md ops i f l = true -> (∀ o, ops[l]? = some o -> ∀ e ∈ o.after, Region.binds md e = true -> listed.getD e.on false = true) -> listed.getD i false = true
 | 0, l, h, _ => by simp [qFr] at h
 | f + 1, l, h, hl => by
  unfold qFr at h; cases ho : ops[l]? with
  | none => rw [ho] at h; simp at h
  | some o =>
   rw [ho] at h; simp only [Array.any_eq_true', Bool.and_eq_true, Bool.or_eq_true, beq_iff_eq] at h; obtain ⟨e, he, hb, h⟩ := h; have h1 := hl o ho e he hb; rcases h with h | h
   ·rw [<- h]; exact h1
   ·exact qCV hc f e.on h (hc e.on h1)
def qDz (md : Region.Mode) (ops : Array Oper) (late : List Nat) (i : Nat) : Bool := late.all fun l => i != l && qFr md ops i ops.size l
theorem qJS {i j : Nat} {listed : Array Bool} (hc : qEi md ops listed) (hw : qDz md ops late i = true) (hr : i ∈ Region.ready md ops listed) (hj : j ∈ Region.ready md ops listed) : j ∉ late := fun hl => by
 unfold qDz at hw; rw [List.all_eq_true] at hw; have h1 := hw j hl; simp only [Bool.and_eq_true] at h1; have h2 := qCV hc _ _ h1.2 (fun o ho => by
  obtain ⟨_, o', ho', hall⟩ := mem_ready.1 hj; rw [ho] at ho'; injection ho' with ho'; subst ho'; exact hall)
 have h0 := (mem_ready.1 hr).1; rcases Nat.lt_or_ge i listed.size with h' | h'
 ·simp [h'] at h0 h2
  rw [h0] at h2; cases h2
 ·simp [Array.getElem?_eq_none h'] at h2
theorem qDx {i : Nat} {oi : Oper} {v : Value} (hi : ops[i]? = some oi) (hsel : ∀ (j : Nat) (o : Oper) cs b, ops[j]? = some o -> o.op ≠ .select cs b)
 (hQ : ∀ c a w, Q (.panic c) (a.put oi.dst v) w -> Q (.panic c) a w) (hwt : qDz md ops late i = true) (fuel : Nat) :
 ∀ (listed : Array Bool) (a : Act) (w : World), qEi md ops listed ->
  (∀ j oj, ops[j]? = some oj -> j ≠ i -> listed.getD j true = false -> (∀ e ∈ oj.after, Region.binds md e = true -> e.on ≠ i) -> oi.apart ops oj = true) ->
  i ∈ Region.ready md ops listed -> YieldsIf P ops S oi v a -> S w ->
  qAz P md ops Q S late fuel (listed.setIfInBounds i true) (a.put oi.dst v) w -> qAz P md ops Q S late (fuel + 1) listed a w := by
 induction fuel with
 | zero =>
  intro listed a w hc _ hr hy hS H; refine ⟨fun h => absurd hr (by rw [h]; simp), fun j hj => ?_⟩; by_cases hji : j = i
  ·subst hji
   exact hy.wpOp hi hS ⟨fun _ _ => hS, H⟩
  ·exact absurd (ready_mono hj hji) (by rw [H.1]; simp)
 | succ fuel ih =>
  intro listed a w hc hfree hr hy hS H; refine ⟨fun h => absurd hr (by rw [h]; simp), fun j hj => ?_⟩; by_cases hji : j = i
  ·subst hji
   exact hy.wpOp hi hS ⟨fun _ _ => hS, H⟩
  ·have hjl : j ∉ late := qJS hc hwt hr hj
   obtain ⟨hjun, oj, hoj, hall⟩ := mem_ready.1 hj; have hnot : ∀ e ∈ oj.after, Region.binds md e = true -> e.on ≠ i := by
    intro e he hb heq; have h1 := hall e he hb; have h0 := (mem_ready.1 hr).1; rw [heq] at h1; rcases Nat.lt_or_ge i listed.size with h' | h'
    ·simp [h'] at h0 h1
     rw [h0] at h1; cases h1
    ·simp [Array.getElem?_eq_none h'] at h1
   have h2 := wpOp_putIf hoj (hfree j oj hoj hji hjun hnot) (fun cs b => hsel i oi cs b hi) (fun cs b => hsel j oj cs b hoj) hQ hy (H.2 j (ready_mono hj hji)); refine wpOp_mono (fun a' w' h3 => ⟨h3.2.1, ih _ a' w' (hc.set hj) (fun k ok hk hki hun hno => ?_) (ready_mono hr (Ne.symm hji)) h3.1 (h3.2.1 hjl hS) ?_⟩) h2
   ·refine hfree k ok hk hki ?_ hno
    by_cases hjk : j = k
    ·subst hjk; exact hjun
    ·rw [getD_set_ne true hjk] at hun; exact hun
   ·rw [Array.setIfInBounds_comm _ _ hji]
    exact h3.2.2
theorem qGr {i : Nat} {oi : Oper} {v : Value} (hi : ops[i]? = some oi) (hsel : ∀ (j : Nat) (o : Oper) cs b, ops[j]? = some o -> o.op ≠ .select cs b)
 (hQ : ∀ c a w, Q (.panic c) (a.put oi.dst v) w -> Q (.panic c) a w) (fuel : Nat) :
 ∀ (listed : Array Bool) (a : Act) (w : World), 
  (∀ j oj, ops[j]? = some oj -> j ≠ i -> listed.getD j true = false -> (∀ e ∈ oj.after, Region.binds md e = true -> e.on ≠ i) -> oi.apart ops oj = true) ->
  i ∈ Region.ready md ops listed -> YieldsIf P ops (fun _ => True) oi v a ->
  qAz P md ops Q S late fuel (listed.setIfInBounds i true) (a.put oi.dst v) w -> qAz P md ops Q S late (fuel + 1) listed a w := by
 induction fuel with
 | zero =>
  intro listed a w _ hr hy H; refine ⟨fun h => absurd hr (by rw [h]; simp), fun j hj => ?_⟩; by_cases hji : j = i
  ·subst hji
   exact hy.wpOp hi trivial ⟨fun _ h => h, H⟩
  ·exact absurd (ready_mono hj hji) (by rw [H.1]; simp)
 | succ fuel ih =>
  intro listed a w hfree hr hy H; refine ⟨fun h => absurd hr (by rw [h]; simp), fun j hj => ?_⟩; by_cases hji : j = i
  ·subst hji
   exact hy.wpOp hi trivial ⟨fun _ h => h, H⟩
  ·obtain ⟨hjun, oj, hoj, hall⟩ := mem_ready.1 hj
   have hnot : ∀ e ∈ oj.after, Region.binds md e = true -> e.on ≠ i := by
    intro e he hb heq; have h1 := hall e he hb; have h0 := (mem_ready.1 hr).1; rw [heq] at h1; rcases Nat.lt_or_ge i listed.size with h' | h'
    ·simp [h'] at h0 h1
     rw [h0] at h1; cases h1
    ·simp [Array.getElem?_eq_none h'] at h1
   have h2 := wpOp_putIf hoj (hfree j oj hoj hji hjun hnot) (fun cs b => hsel i oi cs b hi) (fun cs b => hsel j oj cs b hoj) hQ hy (H.2 j (ready_mono hj hji)); refine wpOp_mono (fun a' w' h3 => ⟨h3.2.1, ih _ a' w' (fun k ok hk hki hun hno => ?_) (ready_mono hr (Ne.symm hji)) h3.1 ?_⟩) h2
   ·refine hfree k ok hk hki ?_ hno
    by_cases hjk : j = k
    ·subst hjk; exact hjun
    ·rw [getD_set_ne true hjk] at hun; exact hun
   ·rw [Array.setIfInBounds_comm _ _ hji]
    exact h3.2.2
theorem qDR (i d : Nat) {oi : Oper} {v : Value} {fuel : Nat} {listed : Array Bool} {tmps : Array Value} {ds : List Deferred} {w : World} (hi : ops[i]? = some oi) (hd : oi.dst = some d)
 (hs : Region.noSelect ops = true) (hf : Region.free md ops listed i = true) (hr : (Region.ready md ops listed).contains i = true) (hwt : qDz md ops late i = true) (hc : qCU md ops listed = true)
 (hQ : ∀ c a w, Q (.panic c) (a.put oi.dst v) w -> Q (.panic c) a w) (hw : Region.wanted oi (yielded ops tmps) = true) (hy : ∀ w, S w -> (execOp (Act.eval ⟨tmps, ds⟩) oi).run P w = .ok (.value v) w) (hS : S w)
 (h : qAz P md ops Q S late fuel (listed.setIfInBounds i true) ⟨tmps.setIfInBounds d v, ds⟩ w) : qAz P md ops Q S late (fuel + 1) listed ⟨tmps, ds⟩ w :=
 qDx hi (Region.noSelect_spec hs) hQ hwt fuel listed _ w (qGa hc) (Region.free_spec hi hf) (by simpa using hr) (Or.inl ⟨hw, hy⟩) hS (by rw [hd]; exact h)
theorem qLY (i d : Nat) {oi : Oper} {v : Value} {fuel : Nat} {listed : Array Bool} {tmps : Array Value} {ds : List Deferred} {w : World} (hi : ops[i]? = some oi) (hd : oi.dst = some d)
 (hs : Region.noSelect ops = true) (hf : Region.free md ops listed i = true) (hr : (Region.ready md ops listed).contains i = true)
 (hQ : ∀ c a w, Q (.panic c) (a.put oi.dst v) w -> Q (.panic c) a w) (hw : Region.wanted oi (yielded ops tmps) = true) (hy : ∀ w, (execOp (Act.eval ⟨tmps, ds⟩) oi).run P w = .ok (.value v) w)
 (h : qAz P md ops Q S late fuel (listed.setIfInBounds i true) ⟨tmps.setIfInBounds d v, ds⟩ w) : qAz P md ops Q S late (fuel + 1) listed ⟨tmps, ds⟩ w :=
 qGr hi (Region.noSelect_spec hs) hQ fuel listed _ w (Region.free_spec hi hf) (by simpa using hr) (Or.inl ⟨hw, fun w _ => hy w⟩) (by rw [hd]; exact h)
theorem qMw (i d : Nat) {oi : Oper} {fuel : Nat} {listed : Array Bool} {tmps : Array Value} {ds : List Deferred} {w : World} (hi : ops[i]? = some oi) (hd : oi.dst = some d)
 (hs : Region.noSelect ops = true) (hf : Region.free md ops listed i = true) (hr : (Region.ready md ops listed).contains i = true) (hwt : qDz md ops late i = true) (hc : qCU md ops listed = true)
 (hQ : ∀ c a w, Q (.panic c) (a.put oi.dst undef) w -> Q (.panic c) a w) (hw : Region.wanted oi (yielded ops tmps) = false) (hS : S w)
 (h : qAz P md ops Q S late fuel (listed.setIfInBounds i true) ⟨tmps.setIfInBounds d undef, ds⟩ w) : qAz P md ops Q S late (fuel + 1) listed ⟨tmps, ds⟩ w :=
 qDx hi (Region.noSelect_spec hs) hQ hwt fuel listed _ w (qGa hc) (Region.free_spec hi hf) (by simpa using hr) (Or.inr ⟨hw, rfl⟩) hS (by rw [hd]; exact h)
theorem qMF {listed : Array Bool} {a : Act} {w : World} (hr : Region.ready md ops listed = []) (h : Q .normal a w) : ∀ fuel, qAz P md ops Q S late fuel listed a w
 | 0 => ⟨hr, h⟩
 | _ + 1 => ⟨fun _ => h, by rw [hr]; simp⟩
theorem qMv (i : Nat) {o : Oper} {fuel : Nat} {listed : Array Bool} {a : Act} {w : World} (hr : Region.ready md ops listed = [i]) (ho : ops[i]? = some o)
 (h : ∀ K' : Act -> World -> Prop, Shut (∀ a w, S w -> (S w -> qAz P md ops Q S late fuel (listed.setIfInBounds i true) a w) -> K' a w) -> if Region.wanted o (yielded ops a.tmps) = true then Oper.wp P o a w K' Q else K' (a.put o.dst undef) w) :
 qAz P md ops Q S late (fuel + 1) listed a w := by
 refine ⟨fun h0 => absurd (hr.symm.trans h0) (by simp), fun j hj => ?_⟩; rw [hr, List.mem_singleton] at hj; subst hj; exact wpOp_step ho (fun K' hK => h K' (fun a w hS hW => hK a w ⟨fun _ _ => hS, hW hS⟩))
theorem qMA (i : Nat) {o : Oper} {fuel : Nat} {listed : Array Bool} {a : Act} {w : World} (hr : Region.ready md ops listed = [i]) (hl : i ∈ late) (ho : ops[i]? = some o)
 (h : ∀ K' : Act -> World -> Prop, Shut (∀ a w, qAz P md ops Q S late fuel (listed.setIfInBounds i true) a w -> K' a w) -> if Region.wanted o (yielded ops a.tmps) = true then Oper.wp P o a w K' Q else K' (a.put o.dst undef) w) :
 qAz P md ops Q S late (fuel + 1) listed a w := by
 refine ⟨fun h0 => absurd (hr.symm.trans h0) (by simp), fun j hj => ?_⟩; rw [hr, List.mem_singleton] at hj; subst hj; exact wpOp_step ho (fun K' hK => h K' (fun a w hW => hK a w ⟨fun h => absurd hl h, hW⟩))
def qKI (f : Nat -> Prop) : List Nat -> Prop
 | [] => True
 | i :: r => f i /\ qKI f r
theorem qKI.mem {f : Nat -> Prop} : ∀ {l : List Nat}, qKI f l -> ∀ i ∈ l, f i
 | [], _, _, h => by cases h
 | j :: r, h, i, hi => by
  rcases List.mem_cons.1 hi with rfl | hi
  ·exact h.1
  ·exact qKI.mem h.2 i hi
theorem qIj (rs : List Nat) {fuel : Nat} {listed : Array Bool} {a : Act} {w : World} (hr : Region.ready md ops listed = rs) (hne : rs ≠ [])
 (h : qKI (fun i => wpOp P ops Q i (fun a' w' => S w' /\ qAz P md ops Q S late fuel (listed.setIfInBounds i true) a' w') a w) rs) :
 qAz P md ops Q S late (fuel + 1) listed a w := by
 refine ⟨fun h0 => absurd (hr.symm.trans h0) hne, fun j hj => ?_⟩; rw [hr] at hj; exact wpOp_mono (fun a' w' h' => ⟨fun _ _ => h'.1, h'.2⟩) (h.mem j hj)
theorem qA3 (i : Nat) {o : Oper} {fuel : Nat} {listed : Array Bool} {a : Act} {w : World} (ho : ops[i]? = some o)
 (h : ∀ K' : Act -> World -> Prop, Shut (∀ a w, S w -> (S w -> qAz P md ops Q S late fuel (listed.setIfInBounds i true) a w) -> K' a w) -> if Region.wanted o (yielded ops a.tmps) = true then Oper.wp P o a w K' Q else K' (a.put o.dst undef) w) :
 wpOp P ops Q i (fun a' w' => S w' /\ qAz P md ops Q S late fuel (listed.setIfInBounds i true) a' w') a w :=
 wpOp_step ho (fun K' hK => h K' (fun a w hS hW => hK a w ⟨hS, hW hS⟩))
theorem qAs {id : Nat} {a : Act} {w : World} (late : List Nat) (S : World -> Prop) (hm : P.follows .mixedOrders = true) (hS : S w.drew)
 (h : S w.drew -> qAz P .any ops Q S late ops.size (Array.replicate ops.size false) a w.drew) : (Code.region id ops true).wp P Q a w :=
 wp_region_any hm (qEr _ _ _ _ (h hS))
end
/-- short names -/
theorem sX1 {α : Type _} (l : List α) (i : Nat) (a : α) : l.toArray.setIfInBounds i a = (l.set i a).toArray := List.setIfInBounds_toArray ..
theorem sX2 {α : Type _} {x : α} {xs : List α} {a : α} : (x :: xs).set 0 a = a :: xs := List.set_cons_zero ..
theorem sX3 {α : Type _} {x : α} {xs : List α} {i : Nat} {a : α} : (x :: xs).set (i + 1) a = x :: xs.set i a := List.set_cons_succ ..
section
variable {P : Program} {md : Region.Mode} {ops : Array Oper} {Q : Exit -> Act -> World -> Prop} {S : World -> Prop} {late : List Nat}
theorem pU (i d : Nat) {oi : Oper} {v : Value} {T : Array Value} {fuel : Nat} {listed : Array Bool} {tmps : Array Value} {ds : List Deferred} {w : World}
    (h : qAz P md ops Q S late fuel (listed.setIfInBounds i true) ⟨T, ds⟩ w)
    (hi : ops[i]? = some oi := by rfl) (hd : oi.dst = some d := by rfl)
    (hy : ∀ w, (execOp (Act.eval ⟨tmps, ds⟩) oi).run P w = .ok (.value v) w := by (intro w; go_simp; first | done | with_reducible rfl))
    (hT : tmps.setIfInBounds d v = T := by (simp only [List.setIfInBounds_toArray, List.set_cons_zero, List.set_cons_succ]; try rfl))
    (hs : Region.noSelect ops = true := by kernel_rfl) (hf : Region.free md ops listed i = true := by kernel_rfl) (hr : (Region.ready md ops listed).contains i = true := by kernel_rfl)
    (hQ : ∀ c a w, Q (.panic c) (a.put oi.dst v) w -> Q (.panic c) a w := by exact fun _ _ _ h => h) (hw : Region.wanted oi (yielded ops tmps) = true := by rfl) : qAz P md ops Q S late (fuel + 1) listed ⟨tmps, ds⟩ w :=
  qLY i d hi hd hs hf hr hQ hw hy (hT ▸ h)
theorem tU (i d : Nat) {oi : Oper} {v : Value} {T : Array Value} {fuel : Nat} {listed : Array Bool} {tmps : Array Value} {ds : List Deferred} {w : World} {A : Addr} {x : Value} (c : ∀ w, S w -> w.cell? A = some x)
    (h : qAz P md ops Q S late fuel (listed.setIfInBounds i true) ⟨T, ds⟩ w)
    (hi : ops[i]? = some oi := by rfl) (hd : oi.dst = some d := by rfl)
    (y : ∀ w, w.cell? A = some x -> (execOp (Act.eval ⟨tmps, ds⟩) oi).run P w = .ok (.value v) w := by (intro w x0; go_simp; first | done | with_reducible rfl))
    (hT : tmps.setIfInBounds d v = T := by (simp only [List.setIfInBounds_toArray, List.set_cons_zero, List.set_cons_succ]; try rfl))
    (hs : Region.noSelect ops = true := by kernel_rfl) (hf : Region.free md ops listed i = true := by kernel_rfl) (hr : (Region.ready md ops listed).contains i = true := by kernel_rfl) (hwt : qDz md ops late i = true := by kernel_rfl) (hc : qCU md ops listed = true := by kernel_rfl)
    (hQ : ∀ c a w, Q (.panic c) (a.put oi.dst v) w -> Q (.panic c) a w := by exact fun _ _ _ h => h) (hw : Region.wanted oi (yielded ops tmps) = true := by rfl) (hS : S w := by assumption) : qAz P md ops Q S late (fuel + 1) listed ⟨tmps, ds⟩ w :=
  qDR i d hi hd hs hf hr hwt hc hQ hw (fun w s => y w (c w s)) hS (hT ▸ h)
theorem tV (i d : Nat) {oi : Oper} {v : Value} {T : Array Value} {fuel : Nat} {listed : Array Bool} {tmps : Array Value} {ds : List Deferred} {w : World} {A B : Addr} {x z : Value} (c : ∀ w, S w -> w.cell? A = some x) (c' : ∀ w, S w -> w.cell? B = some z)
    (h : qAz P md ops Q S late fuel (listed.setIfInBounds i true) ⟨T, ds⟩ w)
    (hi : ops[i]? = some oi := by rfl) (hd : oi.dst = some d := by rfl)
    (y : ∀ w, w.cell? A = some x -> w.cell? B = some z -> (execOp (Act.eval ⟨tmps, ds⟩) oi).run P w = .ok (.value v) w := by (intro w x0 x1; go_simp; first | done | with_reducible rfl))
    (hT : tmps.setIfInBounds d v = T := by (simp only [List.setIfInBounds_toArray, List.set_cons_zero, List.set_cons_succ]; try rfl))
    (hs : Region.noSelect ops = true := by kernel_rfl) (hf : Region.free md ops listed i = true := by kernel_rfl) (hr : (Region.ready md ops listed).contains i = true := by kernel_rfl) (hwt : qDz md ops late i = true := by kernel_rfl) (hc : qCU md ops listed = true := by kernel_rfl)
    (hQ : ∀ c a w, Q (.panic c) (a.put oi.dst v) w -> Q (.panic c) a w := by exact fun _ _ _ h => h) (hw : Region.wanted oi (yielded ops tmps) = true := by rfl) (hS : S w := by assumption) : qAz P md ops Q S late (fuel + 1) listed ⟨tmps, ds⟩ w :=
  qDR i d hi hd hs hf hr hwt hc hQ hw (fun w s => y w (c w s) (c' w s)) hS (hT ▸ h)
theorem sU (i d : Nat) {oi : Oper} {T : Array Value} {fuel : Nat} {listed : Array Bool} {tmps : Array Value} {ds : List Deferred} {w : World}
    (h : qAz P md ops Q S late fuel (listed.setIfInBounds i true) ⟨T, ds⟩ w)
    (hi : ops[i]? = some oi := by rfl) (hd : oi.dst = some d := by rfl)
    (hT : tmps.setIfInBounds d undef = T := by (simp only [List.setIfInBounds_toArray, List.set_cons_zero, List.set_cons_succ]; try rfl))
    (hs : Region.noSelect ops = true := by kernel_rfl) (hf : Region.free md ops listed i = true := by kernel_rfl) (hr : (Region.ready md ops listed).contains i = true := by kernel_rfl) (hwt : qDz md ops late i = true := by kernel_rfl) (hc : qCU md ops listed = true := by kernel_rfl)
    (hQ : ∀ c a w, Q (.panic c) (a.put oi.dst undef) w -> Q (.panic c) a w := by exact fun _ _ _ h => h) (hw : Region.wanted oi (yielded ops tmps) = false := by rfl) (hS : S w := by assumption) : qAz P md ops Q S late (fuel + 1) listed ⟨tmps, ds⟩ w :=
  qMw i d hi hd hs hf hr hwt hc hQ hw hS (hT ▸ h)
theorem eU (i : Nat) {o : Oper} {fuel : Nat} {listed : Array Bool} {a : Act} {w : World}
    (h : ∀ K' : Act -> World -> Prop, Shut (∀ a w, S w -> (S w -> qAz P md ops Q S late fuel (listed.setIfInBounds i true) a w) -> K' a w) -> if Region.wanted o (yielded ops a.tmps) = true then Oper.wp P o a w K' Q else K' (a.put o.dst undef) w)
    (ho : ops[i]? = some o := by rfl) (hr : Region.ready md ops listed = [i] := by kernel_rfl) : qAz P md ops Q S late (fuel + 1) listed a w := qMv i hr ho h
theorem lU (i : Nat) {o : Oper} {fuel : Nat} {listed : Array Bool} {a : Act} {w : World}
    (h : ∀ K' : Act -> World -> Prop, Shut (∀ a w, qAz P md ops Q S late fuel (listed.setIfInBounds i true) a w -> K' a w) -> if Region.wanted o (yielded ops a.tmps) = true then Oper.wp P o a w K' Q else K' (a.put o.dst undef) w)
    (ho : ops[i]? = some o := by rfl) (hr : Region.ready md ops listed = [i] := by kernel_rfl) (hl : i ∈ late := by decide) : qAz P md ops Q S late (fuel + 1) listed a w := qMA i hr hl ho h
theorem dU {listed : Array Bool} {a : Act} {w : World} {fuel : Nat} (h : Q .normal a w) (hr : Region.ready md ops listed = [] := by kernel_rfl) : qAz P md ops Q S late fuel listed a w := qMF hr h _
end
open Go.RowKit
theorem qFx (v1 v2 : Value) (l1 l2 : List Int) (w : World) (h1 : qAm w v1 l1) (h2 : qAm w v2 l2) : Calls Try.prog 38 #[v1, v2] w fun e w' => e = .returned (.bool (decide (l1 = l2))) /\ Below w.heap.size w w' := by
 have H1 := hZ h1; have H2 := hZ h2; obtain ⟨a1, c1, rfl, b1, b2⟩ := h1.form; obtain ⟨a2, c2, rfl, b3, b4⟩ := h2.form; clear h1 h2; by_cases hl : l1.length = l2.length
 ·have q1 : ((l1.length : Int) == (l2.length : Int)) = true := by simp [hl]
  have q2 : ((l1.length : Int) != (l2.length : Int)) = false := by simp [hl]
  have q3 : (l1.length == l2.length) = true := by simp [hl]
  have q4 : (l1.length != l2.length) = false := by simp [hl]
  have HL := hZ hl; clear hl
  go_enter Try.func38, Try.ntmps38
  go_wp2_with fail
  go_loopw [5] (fun i wr => ∃ j : Nat, j <= l1.length /\ i = .int .i64 j /\ Hid (l1.take j = l2.take j) /\ Hid (Below w.heap.size w wr)) (fun i _ => l1.length - (intOf i).toNat)
  case atStart => exact ⟨0, by omega, rfl, hZ rfl, hZ (Below.refl _ _)⟩
  case round =>
   obtain ⟨j, hj, rfl, HT, HB⟩ := hrel; by_cases hlt : j < l1.length
   ·have hlt2 : j < l2.length := by have := HL.o; omega
    obtain ⟨d1, e1, hv1, hb1, n1⟩ := qAm.at_ (H1.o.below HB.o) j hlt; obtain ⟨d2, e2, hv2, hb2, n2⟩ := qAm.at_ (H2.o.below HB.o) j hlt2; injection hv1 with f1 f2 f3; injection hv2 with g1 g2 g3; subst f1 g1; clear f2 f3 g2 g3; have HT1 : Hid (l1.take (j + 1) = l1.take j ++ [l1[j]]) := hZ (List.take_succ_eq_append_getElem hlt); have HT2 : Hid (l2.take (j + 1) = l2.take j ++ [l2[j]]) := hZ (List.take_succ_eq_append_getElem hlt2); have HNo : Hid (l1[j] ≠ l2[j] -> ¬ l1 = l2) := hZ (fun h e => h (by subst e; rfl)); generalize l1[j] = x1 at *; generalize l2[j] = x2 at *; have i1 : (0 : Int) <= (j : Int) := by omega
    have i2 : (j : Int) < (l1.length : Int) := by omega
    have i3 : (j : Int) < (l2.length : Int) := by omega
    by_cases hx : x1 = x2
    ·have r1 : (x1 == x2) = true := by simp [hx]
     have r2 : (x1 != x2) = false := by simp [hx]
     have HX := hZ hx; clear hx
     go_wp2_with fail
     go_region
     go_wp2_with fail
     go_roundw
     case rel => exact ⟨j + 1, by omega, by go_num, hZ (by rw [HT1.o, HT2.o, HT.o, HX.o]), hZ HB.o.drew⟩
     case measure => simp [intOf]; omega
    ·have r1 : (x1 == x2) = false := by simp [hx]
     have r2 : (x1 != x2) = true := by simp [hx]
     have HX := hZ (decide_eq_false (HNo.o hx)); clear hx
     go_wp2_with fail
     go_region
     go_wp2_with fail
     go_ret; exact ⟨by rw [HX.o]; rfl, HB.o.drew⟩
   ·have h9 := HT.o
    rw [List.take_of_length_le (show l1.length <= j by omega), List.take_of_length_le (show l2.length <= j by have := HL.o; omega)] at h9; have HX := hZ (decide_eq_true h9); clear h9
    go_wp2_with fail
    go_ret; exact ⟨by rw [HX.o]; rfl, HB.o⟩
 ·have q1 : ((l1.length : Int) == (l2.length : Int)) = false := by simp; omega
  have q2 : ((l1.length : Int) != (l2.length : Int)) = true := by simp; omega
  have q3 : (l1.length == l2.length) = false := by simpa using hl
  have q4 : (l1.length != l2.length) = true := by simpa using hl
  have HX : Hid (decide (l1 = l2) = false) := hZ (decide_eq_false (fun e => hl (by rw [e]))); clear hl
  go_enter Try.func38, Try.ntmps38
  go_wp2_with fail
  go_ret; exact ⟨by rw [HX.o]; rfl, Below.refl _ _⟩
theorem qHc (v1 v2 : Value) (A B : List (List Int)) (w0 : World) (h1 : qAD w0 v1 A) (h2 : qAD w0 v2 B) : Calls Try.prog 16 #[v1, v2] w0 fun e w' => e = .returned (.bool (decide (A = B))) /\ Below w0.heap.size w0 w' := by
 have H1 := hZ h1; have H2 := hZ h2; have HB := hZ (Below.refl w0.heap.size w0); obtain ⟨a1, c1, rfl, b1, b2⟩ := h1.form; obtain ⟨a2, c2, rfl, b3, b4⟩ := h2.form; clear h1 h2; by_cases hl : A.length = B.length; rotate_left
 ·have q1 : ((A.length : Int) == (B.length : Int)) = false := by rw [beq_eq_false_iff_ne]; omega
  have q2 : ((A.length : Int) != (B.length : Int)) = true := by simp; omega
  have q3 : (A.length == B.length) = false := by rw [beq_eq_false_iff_ne]; omega
  have q4 : (A.length != B.length) = true := by simp; omega
  have HN := hZ (decide_eq_false (show ¬ A = B from fun e => hl (by rw [e])))
  go_enter Try.func16, Try.ntmps16
  go_wp2_with fail
  go_ret; exact ⟨by rw [HN.o]; rfl, HB.o⟩
 have q1 : ((A.length : Int) == (B.length : Int)) = true := by simp [hl]
 have q2 : ((A.length : Int) != (B.length : Int)) = false := by simp [hl]
 have q3 : (A.length == B.length) = true := by simp [hl]
 have q4 : (A.length != B.length) = false := by simp [hl]
 have HL := hZ hl; clear hl
 go_enter Try.func16, Try.ntmps16
 go_wp2_with fail
 go_loopw [5] (fun i wr => ∃ j : Nat, j <= A.length /\ i = .int .i64 j /\ Hid (A.take j = B.take j) /\ Hid (Below w0.heap.size w0 wr)) (fun i _ => A.length - (intOf i).toNat)
 case atStart => exact ⟨0, by omega, rfl, hZ rfl, HB⟩
 case round =>
  clear HB; obtain ⟨j, hj, rfl, HT, HB⟩ := hrel; obtain ⟨w1, rfl⟩ := eY wr; by_cases hlt : j < A.length; rotate_left
  ·have HA : Hid (A = B) := hZ (by have h1 := HT.o; have h2 := HL.o; rwa [List.take_of_length_le (by omega), List.take_of_length_le (by omega)] at h1)
   go_wp2_with fail
   go_ret; exact ⟨by rw [decide_eq_true HA.o]; rfl, HB.o⟩
  have hlt2 : j < B.length := by have := HL.o; omega
  obtain ⟨d1, e1, x1, y1, hv1, hb1, n1, K1, g1, g2⟩ := H1.o.at_ j hlt; obtain ⟨d2, e2, x2, y2, hv2, hb2, n2, K2, g3, g4⟩ := H2.o.at_ j hlt2; injection hv1 with f1 f2 f3; subst f1; clear f2 f3; injection hv2 with f1 f2 f3; subst f1; clear f2 f3; replace n1 := (HB.o.cell (p := ⟨d1, j, none⟩) hb1).trans n1; replace n2 := (HB.o.cell (p := ⟨d2, j, none⟩) hb2).trans n2; have i1 : (0 : Int) <= (j : Int) := by omega
  have i2 : (j : Int) < (A.length : Int) := by omega
  have i3 : (j : Int) < (B.length : Int) := by omega
  have HT1 : Hid (A.take (j + 1) = A.take j ++ [A[j]]) := hZ (List.take_succ_eq_append_getElem hlt); have HT2 : Hid (B.take (j + 1) = B.take j ++ [B[j]]) := hZ (List.take_succ_eq_append_getElem hlt2); have HNo : Hid (A[j] ≠ B[j] -> ¬ A = B) := hZ (fun h e => h (by subst e; rfl)); have HK1 := hZ (K1.below HB.o); have HK2 := hZ (K2.below HB.o); have HN1 := hZ n1; have HN2 := hZ n2; have Hb1 := hZ (Nat.lt_of_lt_of_le hb1 HB.o.size); have Hb2 := hZ (Nat.lt_of_lt_of_le hb2 HB.o.size); clear K1 K2 n1 n2 hb1 hb2; generalize A[j] = r1 at *; generalize B[j] = r2 at *
  go_wp2_with fail
  have HD := hZ (Below.refl w1.heap.size w1); obtain ⟨w2, hwd⟩ := eX w1.drew; have hB := dB hwd; replace HB := bT HB hB; replace HD := bT HD hB; clear hB; have HBr : Hid (qAb (fun b => False) w2 w2) := hZ (qAb.refl _ _); refine qAs [] (fun w' => qAb (fun b => False) w2 w') (by kernel_rfl) (by rw [hwd]; exact qAb.refl _ _) (fun hHeld => ?_); rw [hwd] at hHeld ⊢; clear hwd; have f1 : w2.cell? ⟨d1, j, none⟩ = some (.slice x1 r1.length y1) := (HD.o.cell (p := ⟨d1, j, none⟩) Hb1.o).trans HN1.o; have f2 : w2.cell? ⟨d2, j, none⟩ = some (.slice x2 r2.length y2) := (HD.o.cell (p := ⟨d2, j, none⟩) Hb2.o).trans HN2.o; have l1 : d1 < w2.heap.size := Nat.lt_of_lt_of_le Hb1.o HD.o.size; have l2 : d2 < w2.heap.size := Nat.lt_of_lt_of_le Hb2.o HD.o.size; refine pU 0 18 ?_; refine pU 1 19 ?_; refine pU 2 20 ?_; refine tU 3 21 (cF f1 l1) ?_; refine pU 4 22 ?_; refine pU 5 23 ?_; refine pU 6 24 ?_; refine tU 7 25 (cF f2 l2) ?_; clear f1 f2 l1 l2; refine eU 8 fun K hK => ?_; go_simp; refine (qFx _ _ r1 r2 w2 (HK1.o.below HD.o) (HK2.o.below HD.o)).mono ?_; rintro e w3 ⟨rfl, hB⟩; replace HBr := oT HBr hB; replace HB := bT HB hB; replace HD := bT HD hB; clear hB; refine hK.out _ _ HBr.o (fun hHeld => ?_); clear hK K
  try simp only [Act.put, sX1, sX2, sX3]
  refine pU 9 6 ?_; refine dU ?_; clear hHeld; by_cases hx : r1 = r2
  ·skip
   have HX := hZ hx; rw [decide_eq_true hx]; clear hx
   go_wp2_with fail
   go_roundw
   case rel => exact ⟨j + 1, by omega, by go_num, hZ (by rw [HT1.o, HT2.o, HT.o, HX.o]), HB⟩
   case measure => simp [intOf]; omega
  ·skip
   have HX := hZ (decide_eq_false (HNo.o hx)); rw [decide_eq_false hx]; clear hx
   go_wp2_with fail
   go_ret; exact ⟨by rw [HX.o]; rfl, HB.o⟩
open Go.RowKit
theorem qKK (a : Option Addr) (M cap : Nat) (L : List Nat) (w : World) (h : qAd .u32 w (.slice a M cap) L) (hlow : Low W2 L) (hlen : L.length <= 4611686018427387904) :
 Calls Try.prog 58 #[.slice a M cap] w fun e w' => ∃ n, e = .returned (.slice a n cap) /\ qAd .u32 w (.slice a n cap) (qAe W2 (val W2 L)) /\ w = w' := by
 have Htake := hZ (fun n hn => h.take n hn); obtain ⟨a', cap', hv', h1, h2, hc⟩ := h; injection hv' with e1 e2 e3; subst e1 e2 e3; have Hc := hZ hc; have Hlow := hZ hlow; clear hc hlow; obtain ⟨N, hN⟩ := eX L.length; have HN := hZ hN; rw [hN] at h1 hlen ⊢; clear hN
 go_enter Try.func58, Try.ntmps58
 go_wp2
 go_loop [3] (fun i => ∃ n : Nat, n <= N /\ i = .int .i64 n /\ Hid (∀ j (h : j < L.length), n <= j -> L[j] = 0)) (fun i => (intOf i).toNat)
 case atStart => exact ⟨N, Nat.le_refl _, rfl, hZ (fun j hj hn => by rw [HN.o] at hj; omega)⟩
 case round =>
  obtain ⟨n, hn, rfl, hz⟩ := hrel; have hdone : ∀ n : Nat, n <= N -> (∀ j (h : j < L.length), n <= j -> L[j] = 0) -> (∀ h : n - 1 < L.length, n = 0 \/ L[n - 1] ≠ 0) -> qAd .u32 w (.slice a n cap) (qAe W2 (val W2 L)) := by
   intro n hn hz hl; obtain ⟨a', cap', hv, _, _, hr⟩ := Htake.o n (by rw [HN.o]; exact hn); rw [HN.o] at hv; injection hv with e1 e2 e3; subst e1 e3; rw [qDQ W2 qAl L Hlow.o n (by rw [HN.o]; exact hn) hz hl] at hr; exact hr
  have Hd := hZ hdone; clear hdone; by_cases h0 : n = 0
  ·subst h0
   go_wp2
   go_ret; exact ⟨0, rfl, Hd.o 0 hn hz.o (fun _ => .inl rfl), rfl⟩
  ·have hlt : n - 1 < L.length := by rw [HN.o]; omega
   obtain ⟨b, off, rfl, hb, hcc⟩ := Hc.o (by rw [HN.o]; omega); have hcell := hcc (n - 1) hlt; clear hcc; by_cases hzz : L[n - 1] = 0
   ·have hz2 : Hid (∀ j (h : j < L.length), n - 1 <= j -> L[j] = 0) := hZ (fun j hj hnj => by
     by_cases e : j = n - 1
     ·subst e; exact hzz
     ·exact hz.o j hj (by omega))
    rw [hzz] at hcell; clear hzz
    go_wp2
    go_round
    case rel => exact ⟨n - 1, by omega, by go_num, hz2⟩
    case measure => simp [intOf]; omega
   ·have hne : (((L[n - 1] : Nat) : Int) == 0) = false := by simp; exact hzz
    go_wp2
    go_ret; exact ⟨n, rfl, Hd.o n hn hz.o (fun _ => .inr hzz), rfl⟩
theorem qJf (va : Value) (A : List Nat) (d : Nat) (w : World) (ha : qAd .u32 w va A) (hA : Low W2 A) (hd0 : 0 < d) (hd : d < 4294967296) (hlen : A.length <= 1048576) :
 Calls Try.prog 83 #[va, .int .u32 (d : Int)] w fun e w' => ∃ n, e = .returned (.tuple #[.slice (some ⟨w.heap.size, 0, none⟩) n A.length, .int .u32 ((val W2 A % d : Nat) : Int)]) /\ qAd .u32 w' (.slice (some ⟨w.heap.size, 0, none⟩) n A.length) (qAe W2 (val W2 A / d)) /\ Below w.heap.size w w' := by
 obtain ⟨i0, hi, hz0, hz1, hz2⟩ := info_parts qDD; have Hi := hZ hi; have Hz0 := hZ hz0; have Hz1 := hZ hz1; have Hz2 := hZ hz2; clear hi hz0 hz1 hz2; obtain ⟨ya, ycap, hvy, y1, y2, hyc⟩ := ha; subst hvy; have Hyc := hZ hyc; have HlA := hZ hA; clear hyc hA; obtain ⟨N, hN⟩ := eX A.length; have HN := hZ hN; rw [hN] at hlen y1 ⊢; clear hN
 go_enter Try.func83, Try.ntmps83
 go_wp2_with (at_make; refine qAv _ rfl _ _ 56 rfl 88 i0 .u32 Try.underlying56 Hi.o Hz0.o Hz1.o _ _ _ _ N rfl rfl rfl rfl (by rw [Hz2.o]; omega) (by omega) ?_)
 intro w1 hblk hB1 hz1; obtain ⟨g, hg⟩ := eX w.heap.size; have Hg := hZ hg; rw [hg] at hblk hB1 hz1 ⊢; have Hblk1 := hZ hblk; have HB1 := hZ hB1; clear hg hblk hB1
 go_wp2_with fail
 have HI0 := hZ (qJy.start A d N HN.o hd0)
 go_loopw [7, 8] (fun rv i wr => ∃ (k r : Nat) (L : List Nat), k <= N /\ r < d /\ rv = .int .u64 (r : Int) /\ i = .int .i64 ((k : Int) - 1) /\ Hid (qJy A d N k r L) /\ Hid (Blk wr g 88 .u32 L) /\ Hid (Below g w wr)) (fun _ i _ => (intOf i + 1).toNat)
 case atStart => exact ⟨N, 0, _, by omega, hd0, rfl, rfl, HI0, Hblk1, HB1⟩
 case round =>
  obtain ⟨k, r, L, hk, hr, rfl, rfl, hI, hbl, hB⟩ := hrel; have hgw := hbl.o.lt; by_cases h0 : k = 0
  ·subst h0
   have hdn := hI.o.done; have hlen2 := hI.o.len; have Htr := hZ (qKK (some ⟨g, 0, none⟩) N N L wr (by
    have := qAd.of_blk hbl.o (cap := N) (by omega) (by omega); rw [hlen2] at this; exact this) hI.o.low (by omega))
   rw [hdn.1] at Htr; have Hr := hZ hdn.2; clear hdn hlen2
   go_wp2_with (go_at_call 58; refine Htr.o.mono ?_; rintro e w6 ⟨n6, rfl, q1, rfl⟩; have Q1 := hZ q1; clear q1)
   go_ret2
   rw [Hg.o]; exact ⟨n6, by rw [Hr.o]; rfl, Q1.o, hB.o⟩
  ·have hy : k - 1 < A.length := by rw [HN.o]; omega
   have hkl : k - 1 < L.length := by rw [hI.o.len]; omega
   obtain ⟨b, off, rfl, hb, hcc⟩ := Hyc.o (by omega); rw [Hg.o] at hb; have cy := (hB.o.cell (p := ⟨b, off + (k - 1), none⟩) hb).trans (hcc (k - 1) hy); have hyl : A[k - 1] < 4294967296 := HlA.o _ (List.getElem_mem hy); have Hnext := hZ (hI.o.next (by omega) hkl hy HlA.o); have hq := hI.o.quo A[k - 1] hyl; have cg := hbl.o.cell (k - 1) hkl; have fg := hbl.o.frozen (k - 1); clear hcc; generalize A[k - 1] = y at *; have hor := qIN r y (by omega) hyl; obtain ⟨t, ht⟩ := eX (r * 4294967296 + y); have ht1 : t <= 18446744073709551615 := by omega
   rw [show r * W2 + y = t from ht] at Hnext hq; rw [ht] at hor; clear ht; have hq2 : ((t : Int) / (d : Int)) = ((t / d : Nat) : Int) := by omega
   have hm2 : ((t : Int) % (d : Int)) = ((t % d : Nat) : Int) := by omega
   have Hmod := hZ (Nat.mod_lt t hd0); generalize t / d = q at *; generalize t % d = m at *; have hq3 : q < 4294967296 := hq; clear hq
   go_wp2_with fail
   go_roundw
   case rel => exact ⟨k - 1, m, _, by omega, Hmod.o, by rw [hm2], by go_num, Hnext, hZ (hbl.o.set (k - 1) _), hZ (hB.o.setCell (p := ⟨g, k - 1, none⟩) (Nat.le_refl _) _)⟩
   case measure => simp [intOf]; omega
theorem qKc (va : Value) (m d : Nat) (w : World) (ha : qAT w va m) (hd0 : 0 < d) (hd : d < 4294967296) (hl1 : (qAe W2 m).length <= 1048576) :
 Calls Try.prog 83 #[va, .int .u32 (d : Int)] w fun e w' => ∃ n c, e = .returned (.tuple #[.slice (some ⟨w.heap.size, 0, none⟩) n c, .int .u32 ((m % d : Nat) : Int)]) /\ qAT w' (.slice (some ⟨w.heap.size, 0, none⟩) n c) (m / d) /\ Below w.heap.size w w' := by
 have key := qJf va _ d w ha (qAk W2 qAl m) hd0 hd hl1; rw [qAi W2 qAl] at key; refine key.mono ?_; rintro e w' ⟨n, he, hr, hB⟩; exact ⟨n, _, he, hr, hB⟩
theorem qAd.grown {k : IntKind} {w w' : World} {v : Value} {L : List Nat} {row : Option Nat} (h : qAd k w v L) (hg : w.grownBy w' row) (hne : ∀ b off cap, v = .slice (some ⟨b, off, none⟩) L.length cap -> some b ≠ row) : qAd k w' v L := by
 obtain ⟨a, cap, hv, h1, h2, hc⟩ := h; refine ⟨a, cap, hv, h1, h2, fun h0 => ?_⟩; obtain ⟨b, off, ha, hlt, hcc⟩ := hc h0; exact ⟨b, off, ha, Nat.lt_of_lt_of_le hlt hg.size, fun j hj => (World.cell?_of_block (w := w) (a := ⟨b, off + j, none⟩) (hg.block b hlt (hne b off cap (by rw [hv, ha])))).trans (hcc j hj)⟩
open Go.RowKit
def qG1 (m d : Nat) (w : World) (e : Ending) (w' : World) : Prop :=
 Below w.heap.size w w' /\ ∃ vq vr, e = .returned (.tuple #[vq, vr]) /\ qAT w' vq (m / d) /\ qAT w' vr (m % d)
theorem qF0 (va vb : Value) (m d : Nat) (w : World) (ha : qAT w va m) (hb : qAT w vb d) (hd0 : d ≠ 0) (hm : m < LIM) (hd : m < d \/ d < W2) (hd2 : d < LIM) :
 Calls Try.prog 62 #[va, vb] w (qG1 m d w) := by
 have Ha := hZ ha; have Hb := hZ hb; have hla := (qA0 m).2 hm; have hlb := (qA0 d).2 hd2; have Hcmp := hZ (qBP va vb m d w ha hb (by omega) (by omega)); obtain ⟨aa, ca, rfl, h1, h2, h3⟩ := ha; obtain ⟨ab, cb, rfl, h4, h5, h6⟩ := hb; have Hla := hZ hla; have Hlb := hZ hlb; have H6 := hZ h6; clear h3 h6 hm hd2 hla hlb; by_cases hlt : m < d
 ·have hc3 : qAK (m : Int) (d : Int) = -1 := by unfold qAK; rw [if_pos (by omega)]
  rw [hc3] at Hcmp; have Hlt := hZ hlt; have Hcl := hZ (fun n => qGb _ m (w.drewN n) Ha.o (by have := Hla.o; omega)); clear hlt hd hc3 H6; generalize (qAe W2 m).length = M at *; generalize (qAe W2 d).length = N at *
  go_enter Try.func62, Try.ntmps62
  go_wp2_with fail
  refine wp_scope_straight ?_
  go_wp2_with fail
  refine Hcmp.o.mono ?_; rintro e w' ⟨rfl, k, rfl⟩
  go_wp2_with fail
  refine (Hcl.o k).mono ?_; rintro e w1 ⟨a1, l1, c1, rfl, hm1, hB⟩; have HB := hZ (Below.trans (show Below w.heap.size w (w.drewN k) from ⟨rfl, rfl, rfl, Nat.le_refl _, fun _ _ => rfl⟩) hB); have Hm1 := hZ hm1; clear hB hm1 Hcl Hcmp
  go_wp2
  refine bodyPost_ret (v := .tuple #[.slice none 0 0, .slice a1 l1 c1]) (by simp [results, Try.results62, go_sem]) rfl ⟨HB.o, _, _, rfl, ?_, ?_⟩
  ·rw [Nat.div_eq_of_lt Hlt.o]
   unfold qAT; rw [qBa]; exact qAd.nil _ _ (by omega)
  ·rw [Nat.mod_eq_of_lt Hlt.o]; exact Hm1.o
 ·have hd4 := hd.resolve_left hlt
  have hdl : qAe W2 d = [d] := by
   rw [qBj W2 d qAl hd0, Nat.div_eq_of_lt hd4, qBa, Nat.mod_eq_of_lt hd4]
  have Hdf := hZ (fun n => qKc _ m d (w.drewN n) Ha.o (by omega) (by omega) (by have := Hla.o; omega)); have hc3 : ¬ (qAK (m : Int) (d : Int) < 0) := by
   unfold qAK; rw [if_neg (by omega)]
   split <;> simp
  generalize qAK (m : Int) (d : Int) = C at *; obtain ⟨b, off, rfl, hbl, hcell⟩ := H6.o (by rw [hdl]; simp); have hcd : ∀ n, (w.drewN n).cell? ⟨b, off, none⟩ = some (.int .u32 (d : Int)) := fun n => by
   have h7 := hcell 0 (by rw [hdl]; simp); rw [Nat.add_zero] at h7
   show w.cell? _ = _
   rw [h7]; simp [hdl]
  have hdl1 : (qAe W2 d).length = 1 := by rw [hdl]; rfl
  rw [hdl1] at Hb Hcmp Hlb h4 ⊢; have Hcd := hZ hcd; have Hd4 := hZ hd4; have Hd0 := hZ hd0; clear hcd hcell H6 hdl hdl1 hd hlt hd4 hd0; generalize (qAe W2 m).length = M at *
  go_enter Try.func62, Try.ntmps62
  go_wp2_with fail
  refine wp_scope_straight ?_
  go_wp2_with fail
  refine Hcmp.o.mono ?_; rintro e w' ⟨rfl, k, rfl⟩; have hcd := Hcd.o k
  go_wp2_with fail
  refine (Hdf.o k).mono ?_; rintro e w1 ⟨QL, qc, rfl, hm1, hB⟩; have HB := hZ (Below.trans (show Below w.heap.size w (w.drewN k) from ⟨rfl, rfl, rfl, Nat.le_refl _, fun _ _ => rfl⟩) hB); have Hm1 := hZ hm1; have z1 := HB.o.size; obtain ⟨r, hr⟩ := eX (m % d); have hrl : r < 4294967296 := by rw [<- hr]; exact Nat.lt_trans (Nat.mod_lt _ (Nat.pos_of_ne_zero Hd0.o)) Hd4.o
  have Hr := hZ hr; rw [hr]; clear hB hm1 Hdf Hcmp hcd hr
  go_wp2_with fail
  have hblk : Blk (w1.alloc (.cells #[.int .u32 (r : Int)] 88)) w1.heap.size 88 .u32 [r] := heap_alloc_new w1 _; refine (qBV (.slice (some ⟨w1.heap.size, 0, none⟩) 1 1) [r] _ (qAd.of_blk hblk (by simp) (by simp)) (fun x hx => by rw [List.mem_singleton.1 hx]; exact hrl) (by simp)).mono ?_; rintro e w2 ⟨v2, rfl, hr2, rfl⟩; have hv1 : val W2 [r] = r := by simp [val]
  rw [hv1] at hr2; have Hr2 := hZ hr2; obtain ⟨a2, c2, rfl, _, _, _⟩ := hr2; clear hblk hv1
  go_wp2
  refine bodyPost_ret (v := .tuple #[.slice (some ⟨w.heap.size, 0, none⟩) QL qc, .slice a2 (qAe W2 r).length c2]) (by simp [results, Try.results62, go_sem]) rfl ⟨HB.o.alloc z1 _, _, _, rfl, ?_, ?_⟩
  ·exact qAd.below Hm1.o (Nat.le_refl _) ((Below.refl _ _).alloc (Nat.le_refl _) _)
  ·rw [Hr.o]; exact Hr2.o
open Go.RowKit
def qLL (m d : Nat) : Prop := ∀ (w : World) (va vb : Value), qAT w va m -> qAT w vb d -> Calls Try.prog 62 #[va, vb] w (qG1 m d w)
theorem qGT {m d : Nat} (hd0 : d ≠ 0) (hm : m < LIM) (hd : m < d \/ d < W2) (hd2 : d < LIM) : qLL m d := fun w va vb ha hb => qF0 va vb m d w ha hb hd0 hm hd hd2
def qOf (x y : Int) : Int := if x < 0 /\ x.natAbs % y.natAbs ≠ 0 then sgn (decide (x < 0) != decide (y < 0)) (x.natAbs / y.natAbs + 1) else sgn (decide (x < 0) != decide (y < 0)) (x.natAbs / y.natAbs)
def rOf (x y : Int) : Nat := if x < 0 /\ x.natAbs % y.natAbs ≠ 0 then y.natAbs - x.natAbs % y.natAbs else x.natAbs % y.natAbs
def qKH (x y : Int) (w : World) (e : Ending) (w' : World) : Prop :=
 Below w.heap.size w w' /\ ∃ vq vr, e = .returned (.tuple #[vq, vr, .int .i64 0]) /\ qAw w' vq (qOf x y) /\ qAw w' vr (rOf x y)
theorem Two.far {w : World} {b : Nat} {t : TypeId} {x y : Value} (h : Two w b t x y) {p : Addr} (hp : b ≠ p.block) (u : Value) : Two (w.setCell p u) b t x y := (Below.heap_setCell w p u b hp).trans h
theorem qKB (w : World) (t : TypeId) (x1 x2 y1 y2 z1 z2 u1 u2 : Value) (n : Nat) (hn : w.heap.size = n) : ∃ W, (((w.alloc (.cells #[x1, x2] t)).alloc (.cells #[y1, y2] t)).alloc (.cells #[z1, z2] t)).alloc (.cells #[u1, u2] t) = W /\
 Two W n t x1 x2 /\ Two W (n + 1) t y1 y2 /\ Two W (n + 1 + 1) t z1 z2 /\ Two W (n + 1 + 1 + 1) t u1 u2 /\ Below n w W /\ W.heap.size = n + 1 + 1 + 1 + 1 := by
 obtain ⟨V, hV, t1, t2, t3, hB, hs⟩ := qCd w t x1 x2 y1 y2 z1 z2 n hn; rw [hV]; refine ⟨_, rfl, t1.alloc _, t2.alloc _, t3.alloc _, ?_, hB.alloc (by omega) _, by simp [hs]⟩; have := Two.new V t u1 u2; rw [hs] at this; exact this
theorem qCC {w : World} {v : Value} {n : Nat} (h : qAT w v n) : ∃ a l c, v = .slice a l c /\ qAT w (.slice a l c) n /\ l = (qAe W2 n).length /\ l <= c /\ c <= 9223372036854775807 := by
 obtain ⟨a, c, rfl, h1, h2, h3⟩ := h; exact ⟨a, _, c, rfl, ⟨a, c, rfl, h1, h2, h3⟩, rfl, h1, h2⟩
theorem qGI {n : Nat} : 0 < (qAe W2 n).length ↔ n ≠ 0 := by
 rw [List.length_pos_iff, ne_eq, qBB W2 n qAl]
theorem qEX {x y : Int} (h : ¬ (x < 0 /\ x.natAbs % y.natAbs ≠ 0)) : qOf x y = sgn (decide (x < 0) != decide (y < 0)) (x.natAbs / y.natAbs) /\ rOf x y = x.natAbs % y.natAbs := by
 unfold qOf rOf; rw [if_neg h, if_neg h]; exact ⟨rfl, rfl⟩
theorem qGA {x y : Int} (h : x < 0 /\ x.natAbs % y.natAbs ≠ 0) : qOf x y = sgn (decide (x < 0) != decide (y < 0)) (x.natAbs / y.natAbs + 1) /\ rOf x y = y.natAbs - x.natAbs % y.natAbs := by
 unfold qOf rOf; rw [if_pos h, if_pos h]; exact ⟨rfl, rfl⟩
theorem qGW (vx vy : Value) (x y : Int) (w : World) (hx : qAw w vx x) (hy : qAw w vy y) (hy0 : y ≠ 0) (hlx : x.natAbs < LIM) (hly : y.natAbs < LIM) (hok : qLL x.natAbs y.natAbs) :
 Calls Try.prog 43 #[vx, vy] w (qKH x y w) := by
 obtain ⟨vwx, rfl, hmx⟩ := hx; obtain ⟨vwy, rfl, hmy⟩ := hy; obtain ⟨ax, nx, cx, rfl, hmx, hnx, hcx⟩ := qCC hmx; obtain ⟨ay, ny, cy, rfl, hmy, hny, hcy⟩ := qCC hmy; have hypos : 0 < ny := by rw [hny, qGI]; omega
 have hy1 : ((ny : Int) == 0) = false := by simp; omega
 obtain ⟨n, hn⟩ := eX w.heap.size; have Hn := hZ hn; obtain ⟨W, hW, t1, t2, t3, t4, hBW, hsW⟩ := qKB w 58 (.bool (decide (x < 0))) (.slice ax nx cx) (.bool (decide (y < 0))) (.slice ay ny cy) (.bool false) (.slice none 0 0) (.bool false) (.slice none 0 0) n hn; have Hd := hZ (hok W (.slice ax nx cx) (.slice ay ny cy) (hmx.below (Nat.le_of_eq hn) hBW) (hmy.below (Nat.le_of_eq hn) hBW)); have HY := hZ hmy; have hle := (qA0 y.natAbs).2 hly; have hlex := (qA0 x.natAbs).2 hlx; have Hlex := hZ hlex; have Hlx := hZ hlx; have Hle := hZ hle; have Hmod := hZ (Nat.mod_lt x.natAbs (show 0 < y.natAbs by omega)); have HBW := hZ hBW; have T1 := hZ t1; have T2 := hZ t2; have T3 := hZ t3; have T4 := hZ t4; have d1 := t1.cell1; have d3 := t2.cell1; obtain ⟨sx, hsx⟩ := eX (decide (x < 0)); obtain ⟨sy, hsy⟩ := eX (decide (y < 0)); rw [hsx] at hW T1 ⊢; rw [hsy] at hW T2 ⊢; have Hsx := hZ hsx; have Hsy := hZ hsy; clear hok hmx hmy t1 t2 t3 t4 hBW hnx hny hle hlex hlx hly hy0 hsx hsy
 go_enter Try.func43, Try.ntmps43
 go_wp2_with fail
 clear hW hy1; refine Hd.o.mono ?_; rintro e w1 ⟨hB1, vq, vr, rfl, hq, hr⟩; obtain ⟨aq, lq, cq, rfl, hq, hlq, hcq⟩ := qCC hq; obtain ⟨ar, lr, cr, rfl, hr, hlr, hcr⟩ := qCC hr; have Hq := hZ hq; have Hr := hZ hr; have Hlr := hZ hlr; have HB1 := hZ (HBW.o.trans (hB1.mono (by omega))); have z1 := hB1.size; rw [hsW] at z1; have T11 := hZ (T1.o.below hB1 (by omega)); have T12 := hZ (T2.o.below hB1 (by omega)); have T13 := hZ (T3.o.below hB1 (by omega)); have T14 := hZ (T4.o.below hB1 (by omega)); have e0 := T11.o.cell0; have e2 := T12.o.cell0; have e3 := T12.o.cell1; have Hor := hZ (show lr = 0 ↔ x.natAbs % y.natAbs = 0 by
  have := qGI (n := x.natAbs % y.natAbs); rw [<- hlr] at this; omega)
 clear hq hr hlr hlq hB1 Hd T1 T2 T3 T4 d1 d3; by_cases hcase : sx = true /\ 0 < lr
 ·obtain ⟨rfl, hlr0⟩ := hcase
  have Hqr : Hid (qOf x y = sgn (!sy) (x.natAbs / y.natAbs + 1) /\ rOf x y = y.natAbs - x.natAbs % y.natAbs) := hZ (by
   have h9 := qGA (x := x) (y := y) ⟨by simpa using Hsx.o, fun h => by have := Hor.o.2 h; omega⟩; rw [Hsx.o, Hsy.o] at h9; refine ⟨h9.1.trans ?_, h9.2⟩; cases sy <;> rfl)
  obtain ⟨wa, hwa⟩ := eX (w1.alloc (.cells #[.int .u32 1] 88)); have hBa : Below w1.heap.size w1 wa := by rw [<- hwa]; exact (Below.refl _ _).alloc (Nat.le_refl _) _
  have hza : wa.heap.size = w1.heap.size + 1 := by rw [<- hwa]; simp
  have hblk : Blk wa w1.heap.size 88 .u32 [1] := by rw [<- hwa]; exact heap_alloc_new w1 _
  have hone : qAT wa (.slice (some ⟨w1.heap.size, 0, none⟩) 1 1) 1 := by
   have hd1 : qAe W2 1 = [1] := by rw [qBj W2 1 qAl (by omega), show 1 / W2 = 0 from rfl, qBa]; rfl
   unfold qAT; rw [hd1]; exact qAd.of_blk hblk (by simp) (by simp)
  have Hlq : Hid ((qAe W2 (x.natAbs / y.natAbs)).length <= 512) := hZ ((qA0 _).2 (Nat.lt_of_le_of_lt (Nat.div_le_self _ _) Hlx.o)); have Hpl := hZ (qHj _ _ _ 1 wa (qAd.below Hq.o (Nat.le_refl _) hBa) hone (by have := Hlq.o; omega) (by rw [show qAe W2 1 = [1] by rw [qBj W2 1 qAl (by omega), show 1 / W2 = 0 from rfl, qBa]; rfl]; simp)); have HBa := hZ hBa; clear hBa hblk hone
  go_wp2_with fail
  refine Hpl.o.mono ?_; rintro e w2 ⟨v2, rfl, hm2, hB2⟩; obtain ⟨a3, l3, c3, rfl, hm2, -, hc3⟩ := qCC hm2; have Hm2 := hZ hm2; have HB2 := hZ (HBa.o.trans (hB2.mono (by omega))); have z2 := HB2.o.size; have HT2y := hZ (T12.o.below HB2.o (by omega)); have e3' := HT2y.o.cell1; have Hmin := hZ (qD2 (.slice ay ny cy) (.slice ar lr cr) y.natAbs (x.natAbs % y.natAbs) w2 (HY.o.below (Nat.le_of_eq hn) (HB1.o.trans (HB2.o.mono (by omega)))) (qAd.below Hr.o (Nat.le_refl _) HB2.o) (Nat.le_of_lt Hmod.o) (by have := Hle.o; omega)); clear hm2 hB2 Hpl
  go_wp2_with fail
  refine Hmin.o.mono ?_; rintro e w3 ⟨v3, rfl, hm3, hB3⟩; obtain ⟨a4, l4, c4, rfl, hm3, -, hc4⟩ := qCC hm3; have Hr3 := hZ hm3; have Hq3 := hZ (qAd.below Hm2.o (Nat.le_refl _) hB3); have HB23 := hZ (HB2.o.trans (hB3.mono (by omega))); have z3 := HB23.o.size; have HB3 := hZ (HB1.o.trans (HB23.o.mono (by omega))); have T31 := hZ (T11.o.below HB23.o (by omega)); have T32 := hZ (T12.o.below HB23.o (by omega)); have T33 := hZ (T13.o.below HB23.o (by omega)); have T34 := hZ (T14.o.below HB23.o (by omega)); have k0 := T31.o.cell0; have k2 := T32.o.cell0; clear hm3 hB3 Hmin; obtain ⟨Q1, hQ1⟩ := eX (x.natAbs / y.natAbs + 1); obtain ⟨R1, hR1⟩ := eX (y.natAbs - x.natAbs % y.natAbs); have HQM : Hid (qAT w3 (.slice a3 l3 c3) Q1) := hZ (by rw [<- hQ1]; exact Hq3.o); have HRM : Hid (qAT w3 (.slice a4 l4 c4) R1) := hZ (by rw [<- hR1]; exact Hr3.o); rw [hQ1, hR1] at Hqr; clear hQ1 hR1 Hq3 Hr3 Hm2
  go_wp2_with fail
  refine (qAU _ _ _ w3 HQM.o).mono ?_; rintro e w7 ⟨rfl, hB7⟩; have HB7 := hZ hB7; have z7 := hB7.size; clear hB7
  go_wp2_with fail
  refine (qAU _ _ _ w7 (qAd.below HRM.o (Nat.le_refl _) HB7.o)).mono ?_; rintro e w8 ⟨rfl, hB8⟩; have HB8 := hZ (HB7.o.trans (hB8.mono z7)); have z8 := HB8.o.size; have HT3 := hZ (T33.o.below HB8.o (by omega)); have HT4 := hZ (T34.o.below HB8.o (by omega)); have HQ8 := hZ (qAd.below HQM.o (Nat.le_refl _) HB8.o); have HR8 := hZ (qAd.below HRM.o (Nat.le_refl _) HB8.o); have HBall := hZ (HB3.o.trans (HB8.o.mono (by omega))); have g0 := HT3.o.cell0; have g1 := HT3.o.cell1; have g2 := HT3.o.frozen 0; have g3 := HT3.o.frozen 1; have g4 := HT4.o.cell0; have g5 := HT4.o.cell1; have g6 := HT4.o.frozen 0; have g7 := HT4.o.frozen 1; clear hB8
  go_wp2
  refine bodyPost_ret (v := .tuple #[.agg #[.bool (decide (sgn (!sy) Q1 < 0)), .slice a3 l3 c3], .agg #[.bool (decide (sgn false R1 < 0)), .slice a4 l4 c4], .int .i64 0]) (by simp [results, Try.results43, go_sem, g0, g1, g4, g5]) rfl ?_; refine ⟨?_, _, _, rfl, qAw.mk ?_ ?_, qAw.mk ?_ ?_⟩
  ·rw [Hn.o]
   exact (((HBall.o.setCell (p := ⟨n + 1 + 1, 0, none⟩) (by show n <= n + 1 + 1; omega) _).setCell (p := ⟨n + 1 + 1, 1, none⟩) (by show n <= n + 1 + 1; omega) _).setCell (p := ⟨n + 1 + 1 + 1, 0, none⟩) (by show n <= n + 1 + 1 + 1; omega) _).setCell (p := ⟨n + 1 + 1 + 1, 1, none⟩) (by show n <= n + 1 + 1 + 1; omega) _
  ·rw [Hqr.o.1]
  ·rw [Hqr.o.1, qAG]
   exact qAd.store_two (qAd.store_two HQ8.o HT3.o (fun _ _ h => by cases h) (fun _ _ h => by cases h) _ _) ((HT4.o.far (by show n + 1 + 1 + 1 ≠ n + 1 + 1; omega) _).far (by show n + 1 + 1 + 1 ≠ n + 1 + 1; omega) _) (fun _ _ h => by cases h) (fun _ _ h => by cases h) _ _
  ·rw [Hqr.o.2]; rfl
  ·rw [Hqr.o.2]
   exact qAd.store_two (qAd.store_two HR8.o HT3.o (fun _ _ h => by cases h) (fun _ _ h => by cases h) _ _) ((HT4.o.far (by show n + 1 + 1 + 1 ≠ n + 1 + 1; omega) _).far (by show n + 1 + 1 + 1 ≠ n + 1 + 1; omega) _) (fun _ _ h => by cases h) (fun _ _ h => by cases h) _ _
 ·cases sx with
  | false =>
   have Hqr : Hid (qOf x y = sgn sy (x.natAbs / y.natAbs) /\ rOf x y = x.natAbs % y.natAbs) := hZ (by
    have h9 := qEX (x := x) (y := y) (fun h => by have h8 := Hsx.o; rw [decide_eq_true h.1] at h8; cases h8); rw [Hsx.o, Hsy.o] at h9; refine ⟨h9.1.trans ?_, h9.2⟩; cases sy <;> rfl)
   clear hcase
   go_wp2_with fail
   refine (qAU _ _ _ w1 Hq.o).mono ?_; rintro e w7 ⟨rfl, hB7⟩; have HB7 := hZ hB7; have z7 := hB7.size; clear hB7
   go_wp2_with fail
   refine (qAU _ _ _ w7 (qAd.below Hr.o (Nat.le_refl _) HB7.o)).mono ?_; rintro e w8 ⟨rfl, hB8⟩; have HB8 := hZ (HB7.o.trans (hB8.mono z7)); have z8 := HB8.o.size; have HT3 := hZ (T13.o.below HB8.o (by omega)); have HT4 := hZ (T14.o.below HB8.o (by omega)); have HQ8 := hZ (qAd.below Hq.o (Nat.le_refl _) HB8.o); have HR8 := hZ (qAd.below Hr.o (Nat.le_refl _) HB8.o); have HBall := hZ (HB1.o.trans (HB8.o.mono (by omega))); have g0 := HT3.o.cell0; have g1 := HT3.o.cell1; have g2 := HT3.o.frozen 0; have g3 := HT3.o.frozen 1; have g4 := HT4.o.cell0; have g5 := HT4.o.cell1; have g6 := HT4.o.frozen 0; have g7 := HT4.o.frozen 1; clear hB8
   go_wp2
   refine bodyPost_ret (v := .tuple #[.agg #[.bool (decide (sgn sy (x.natAbs / y.natAbs) < 0)), .slice aq lq cq], .agg #[.bool (decide (sgn false (x.natAbs % y.natAbs) < 0)), .slice ar lr cr], .int .i64 0]) (by simp [results, Try.results43, go_sem, g0, g1, g4, g5]) rfl ?_; refine ⟨?_, _, _, rfl, qAw.mk ?_ ?_, qAw.mk ?_ ?_⟩
   ·rw [Hn.o]
    exact (((HBall.o.setCell (p := ⟨n + 1 + 1, 0, none⟩) (by show n <= n + 1 + 1; omega) _).setCell (p := ⟨n + 1 + 1, 1, none⟩) (by show n <= n + 1 + 1; omega) _).setCell (p := ⟨n + 1 + 1 + 1, 0, none⟩) (by show n <= n + 1 + 1 + 1; omega) _).setCell (p := ⟨n + 1 + 1 + 1, 1, none⟩) (by show n <= n + 1 + 1 + 1; omega) _
   ·rw [Hqr.o.1]
   ·rw [Hqr.o.1, qAG]
    exact qAd.store_two (qAd.store_two HQ8.o HT3.o (fun _ _ h => by cases h) (fun _ _ h => by cases h) _ _) ((HT4.o.far (by show n + 1 + 1 + 1 ≠ n + 1 + 1; omega) _).far (by show n + 1 + 1 + 1 ≠ n + 1 + 1; omega) _) (fun _ _ h => by cases h) (fun _ _ h => by cases h) _ _
   ·rw [Hqr.o.2]; rfl
   ·rw [Hqr.o.2]
    exact qAd.store_two (qAd.store_two HR8.o HT3.o (fun _ _ h => by cases h) (fun _ _ h => by cases h) _ _) ((HT4.o.far (by show n + 1 + 1 + 1 ≠ n + 1 + 1; omega) _).far (by show n + 1 + 1 + 1 ≠ n + 1 + 1; omega) _) (fun _ _ h => by cases h) (fun _ _ h => by cases h) _ _
  | true =>
   obtain rfl : lr = 0 := by simp at hcase; omega
   have Hqr : Hid (qOf x y = sgn (!sy) (x.natAbs / y.natAbs) /\ rOf x y = x.natAbs % y.natAbs) := hZ (by
    have h9 := qEX (x := x) (y := y) (fun h => h.2 (Hor.o.1 rfl)); rw [Hsx.o, Hsy.o] at h9; refine ⟨h9.1.trans ?_, h9.2⟩; cases sy <;> rfl)
   clear hcase
   go_wp2_with fail
   refine (qAU _ _ _ w1 Hq.o).mono ?_; rintro e w7 ⟨rfl, hB7⟩; have HB7 := hZ hB7; have z7 := hB7.size; clear hB7
   go_wp2_with fail
   refine (qAU _ _ _ w7 (qAd.below Hr.o (Nat.le_refl _) HB7.o)).mono ?_; rintro e w8 ⟨rfl, hB8⟩; have HB8 := hZ (HB7.o.trans (hB8.mono z7)); have z8 := HB8.o.size; have HT3 := hZ (T13.o.below HB8.o (by omega)); have HT4 := hZ (T14.o.below HB8.o (by omega)); have HQ8 := hZ (qAd.below Hq.o (Nat.le_refl _) HB8.o); have HR8 := hZ (qAd.below Hr.o (Nat.le_refl _) HB8.o); have HBall := hZ (HB1.o.trans (HB8.o.mono (by omega))); have g0 := HT3.o.cell0; have g1 := HT3.o.cell1; have g2 := HT3.o.frozen 0; have g3 := HT3.o.frozen 1; have g4 := HT4.o.cell0; have g5 := HT4.o.cell1; have g6 := HT4.o.frozen 0; have g7 := HT4.o.frozen 1; clear hB8
   go_wp2
   refine bodyPost_ret (v := .tuple #[.agg #[.bool (decide (sgn (!sy) (x.natAbs / y.natAbs) < 0)), .slice aq lq cq], .agg #[.bool (decide (sgn false (x.natAbs % y.natAbs) < 0)), .slice ar 0 cr], .int .i64 0]) (by simp [results, Try.results43, go_sem, g0, g1, g4, g5]) rfl ?_; refine ⟨?_, _, _, rfl, qAw.mk ?_ ?_, qAw.mk ?_ ?_⟩
   ·rw [Hn.o]
    exact (((HBall.o.setCell (p := ⟨n + 1 + 1, 0, none⟩) (by show n <= n + 1 + 1; omega) _).setCell (p := ⟨n + 1 + 1, 1, none⟩) (by show n <= n + 1 + 1; omega) _).setCell (p := ⟨n + 1 + 1 + 1, 0, none⟩) (by show n <= n + 1 + 1 + 1; omega) _).setCell (p := ⟨n + 1 + 1 + 1, 1, none⟩) (by show n <= n + 1 + 1 + 1; omega) _
   ·rw [Hqr.o.1]
   ·rw [Hqr.o.1, qAG]
    exact qAd.store_two (qAd.store_two HQ8.o HT3.o (fun _ _ h => by cases h) (fun _ _ h => by cases h) _ _) ((HT4.o.far (by show n + 1 + 1 + 1 ≠ n + 1 + 1; omega) _).far (by show n + 1 + 1 + 1 ≠ n + 1 + 1; omega) _) (fun _ _ h => by cases h) (fun _ _ h => by cases h) _ _
   ·rw [Hqr.o.2]; rfl
   ·rw [Hqr.o.2]
    exact qAd.store_two (qAd.store_two HR8.o HT3.o (fun _ _ h => by cases h) (fun _ _ h => by cases h) _ _) ((HT4.o.far (by show n + 1 + 1 + 1 ≠ n + 1 + 1; omega) _).far (by show n + 1 + 1 + 1 ≠ n + 1 + 1; omega) _) (fun _ _ h => by cases h) (fun _ _ h => by cases h) _ _
open Go.RowKit
def qKD (z : Int) (w : World) (e : Ending) (w' : World) : Prop :=
 ∃ a n c, e = .returned (.agg #[.bool (decide (z < 0)), .slice a n c]) /\ qAw w' (.agg #[.bool (decide (z < 0)), .slice a n c]) z /\ Below w.heap.size w w'
theorem Two.setB {w : World} {b : Nat} {t : TypeId} {x y : Value} (h : Two w b t x y) (u v : Value) : Two ((w.setCell ⟨b, 0, none⟩ u).setCell ⟨b, 1, none⟩ v) b t u v := by
 unfold Two at h ⊢; simp [World.setCell, Array.getElem?_modify, h]
theorem qDe {P : Program} {f : Func} {z : Int} {w w2 w3 : World} {n : Nat} {sp : Bool} {pa : Option Addr} {pn pc : Nat} {a : Act} (h2 : Below n w w2) (h3 : Below w2.heap.size w2 w3) (hs : n + 1 + 1 + 1 <= w2.heap.size)
 (ht : Two w3 (n + 1 + 1) 58 (.bool false) (.slice none 0 0)) (hm : qAT w2 (.slice pa pn pc) z.natAbs) (hz : decide (z < 0) = sp) (hn : w.heap.size = n)
 (hr : ∀ W : World, W.cell? ⟨n + 1 + 1, 0, none⟩ = some (.bool sp) -> W.cell? ⟨n + 1 + 1, 1, none⟩ = some (.slice pa pn pc) -> (results f a.tmps).run P W = .ok (Value.agg #[.bool sp, .slice pa pn pc]) W) (hd : a.defers = []) :
 bodyPost P f (qKD z w) .ret a ((w3.setCell ⟨n + 1 + 1, 0, none⟩ (.bool sp)).setCell ⟨n + 1 + 1, 1, none⟩ (.slice pa pn pc)) := by
 have hz2 := (ht.setB (.bool sp) (.slice pa pn pc)); refine bodyPost_ret (v := .agg #[.bool sp, .slice pa pn pc]) (hr _ hz2.cell0 hz2.cell1) hd ⟨pa, pn, pc, by rw [hz], ?_, ?_⟩
 ·rw [hz]
  have h5 : qAd .u32 w3 _ _ := qAd.below hm (Nat.le_refl _) h3; exact ⟨_, by rw [hz], qAd.store_two h5 ht (fun _ _ h => by cases h) (fun _ _ h => by cases h) _ _⟩
 ·rw [hn]
  exact ((h2.trans (h3.mono (by omega))).setCell (p := ⟨n + 1 + 1, 0, none⟩) (by show n <= n + 1 + 1; omega) _).setCell (p := ⟨n + 1 + 1, 1, none⟩) (by show n <= n + 1 + 1; omega) _
theorem qId (vx vy : Value) (x y : Int) (w : World) (hx : qAw w vx x) (hy : qAw w vy y) (hlx : x.natAbs < LIM) (hly : y.natAbs < LIM) (hl : (x * y).natAbs < LIM) :
 Calls Try.prog 46 #[vx, vy] w (qKD (x * y) w) := by
 obtain ⟨ax, nx, cx, rfl, hmx⟩ := hx.form; obtain ⟨ay, ny, cy, rfl, hmy⟩ := hy.form; obtain ⟨n, hn⟩ := eX w.heap.size; have Hn := hZ hn; obtain ⟨W, hW, t1, t2, t3, hBW, hsW⟩ := qCd w 58 (.bool (decide (x < 0))) (.slice ax nx cx) (.bool (decide (y < 0))) (.slice ay ny cy) (.bool false) (.slice none 0 0) n hn; have Hm := hZ (qK7 _ _ x y W (hx.below' (Nat.le_of_eq hn) hBW) (hy.below' (Nat.le_of_eq hn) hBW) hlx hly); clear hx hy hmx hmy hlx hly; generalize decide (x < 0) = sx at *; generalize decide (y < 0) = sy at *; have HBW := hZ hBW; have T3 := hZ t3; have d0 := t1.cell0; have d1 := t1.cell1; have d2 := t2.cell0; have d3 := t2.cell1; clear t1 t2 t3 hBW
 go_enter Try.func46, Try.ntmps46
 go_wp2_with fail
 clear hW; refine Hm.o.mono ?_; rintro e w2 hP; obtain ⟨pa, pn, pc, rfl, hPm, hB2⟩ := hP.ok hl; have HB2 := hZ (HBW.o.trans (hB2.mono (by omega))); have T32 := T3.o.below hB2 (by omega); have HT3 := hZ T32; have HP := hZ hPm; have HS2 := hZ (show n + 1 + 1 + 1 <= w2.heap.size by have := hB2.size; omega); generalize hsp : decide (x * y < 0) = sp at *; obtain ⟨w3, hw3⟩ := eX (w2.alloc (.cells #[.bool sp, .slice pa pn pc] 58)); have HB3 : Hid (Below w2.heap.size w2 w3) := hZ (by rw [<- hw3]; exact (Below.refl _ _).alloc (Nat.le_refl _) _); have T5 : Two w3 w2.heap.size 58 (.bool sp) (.slice pa pn pc) := by rw [<- hw3]; exact Two.new _ _ _ _
 have p0 := T5.cell0; have p1 := T5.cell1; have T33 := T32.below HB3.o (by have := HS2.o; omega); have g0 := T33.cell0; have g1 := T33.cell1; have f0 := T33.frozen 0; have f1 := T33.frozen 1; have HT33 := hZ T33; clear hP hPm hB2 T32 T5 T33 d0 d1 d2 d3 T3
 go_wp2_with fail
 exact qDe HB2.o HB3.o HS2.o HT33.o HP.o hsp Hn.o (by intro W2 h0 h1; simp [results, Try.results46, go_sem, h0, h1]) rfl
theorem qIU (vx vy : Value) (x y : Int) (w : World) (hx : qAw w vx x) (hy : qAw w vy y) (hlx : x.natAbs < LIM) (hly : y.natAbs < LIM) (hl : (x + y).natAbs < LIM) :
 Calls Try.prog 79 #[vx, vy] w (qKD (x + y) w) := by
 obtain ⟨ax, nx, cx, rfl, hmx⟩ := hx.form; obtain ⟨ay, ny, cy, rfl, hmy⟩ := hy.form; obtain ⟨n, hn⟩ := eX w.heap.size; have Hn := hZ hn; obtain ⟨W, hW, t1, t2, t3, hBW, hsW⟩ := qCd w 58 (.bool (decide (x < 0))) (.slice ax nx cx) (.bool (decide (y < 0))) (.slice ay ny cy) (.bool false) (.slice none 0 0) n hn; have Hm := hZ (qJq _ _ x y W (hx.below' (Nat.le_of_eq hn) hBW) (hy.below' (Nat.le_of_eq hn) hBW) hlx hly); clear hx hy hmx hmy hlx hly; generalize decide (x < 0) = sx at *; generalize decide (y < 0) = sy at *; have HBW := hZ hBW; have T3 := hZ t3; have d0 := t1.cell0; have d1 := t1.cell1; have d2 := t2.cell0; have d3 := t2.cell1; clear t1 t2 t3 hBW
 go_enter Try.func79, Try.ntmps79
 go_wp2_with fail
 clear hW; refine Hm.o.mono ?_; rintro e w2 hP; obtain ⟨pa, pn, pc, rfl, hPm, hB2⟩ := hP.ok hl; have HB2 := hZ (HBW.o.trans (hB2.mono (by omega))); have T32 := T3.o.below hB2 (by omega); have HT3 := hZ T32; have HP := hZ hPm; have HS2 := hZ (show n + 1 + 1 + 1 <= w2.heap.size by have := hB2.size; omega); generalize hsp : decide (x + y < 0) = sp at *; obtain ⟨w3, hw3⟩ := eX (w2.alloc (.cells #[.bool sp, .slice pa pn pc] 58)); have HB3 : Hid (Below w2.heap.size w2 w3) := hZ (by rw [<- hw3]; exact (Below.refl _ _).alloc (Nat.le_refl _) _); have T5 : Two w3 w2.heap.size 58 (.bool sp) (.slice pa pn pc) := by rw [<- hw3]; exact Two.new _ _ _ _
 have p0 := T5.cell0; have p1 := T5.cell1; have T33 := T32.below HB3.o (by have := HS2.o; omega); have g0 := T33.cell0; have g1 := T33.cell1; have f0 := T33.frozen 0; have f1 := T33.frozen 1; have HT33 := hZ T33; clear hP hPm hB2 T32 T5 T33 d0 d1 d2 d3 T3
 go_wp2_with fail
 exact qDe HB2.o HB3.o HS2.o HT33.o HP.o hsp Hn.o (by intro W2 h0 h1; simp [results, Try.results79, go_sem, h0, h1]) rfl
theorem qIf (vx vy : Value) (x y : Int) (w : World) (hx : qAw w vx x) (hy : qAw w vy y) (hlx : x.natAbs < LIM) (hly : y.natAbs < LIM) (hl : (x - y).natAbs < LIM) :
 Calls Try.prog 45 #[vx, vy] w (qKD (x - y) w) := by
 obtain ⟨ax, nx, cx, rfl, hmx⟩ := hx.form; obtain ⟨ay, ny, cy, rfl, hmy⟩ := hy.form; obtain ⟨n, hn⟩ := eX w.heap.size; have Hn := hZ hn; obtain ⟨W, hW, t1, t2, t3, hBW, hsW⟩ := qCd w 58 (.bool (decide (x < 0))) (.slice ax nx cx) (.bool (decide (y < 0))) (.slice ay ny cy) (.bool false) (.slice none 0 0) n hn; have Hm := hZ (qKP _ _ x y W (hx.below' (Nat.le_of_eq hn) hBW) (hy.below' (Nat.le_of_eq hn) hBW) hlx hly); clear hx hy hmx hmy hlx hly; generalize decide (x < 0) = sx at *; generalize decide (y < 0) = sy at *; have HBW := hZ hBW; have T3 := hZ t3; have d0 := t1.cell0; have d1 := t1.cell1; have d2 := t2.cell0; have d3 := t2.cell1; clear t1 t2 t3 hBW
 go_enter Try.func45, Try.ntmps45
 go_wp2_with fail
 clear hW; refine Hm.o.mono ?_; rintro e w2 hP; obtain ⟨pa, pn, pc, rfl, hPm, hB2⟩ := hP.ok hl; have HB2 := hZ (HBW.o.trans (hB2.mono (by omega))); have T32 := T3.o.below hB2 (by omega); have HT3 := hZ T32; have HP := hZ hPm; have HS2 := hZ (show n + 1 + 1 + 1 <= w2.heap.size by have := hB2.size; omega); generalize hsp : decide (x - y < 0) = sp at *; obtain ⟨w3, hw3⟩ := eX (w2.alloc (.cells #[.bool sp, .slice pa pn pc] 58)); have HB3 : Hid (Below w2.heap.size w2 w3) := hZ (by rw [<- hw3]; exact (Below.refl _ _).alloc (Nat.le_refl _) _); have T5 : Two w3 w2.heap.size 58 (.bool sp) (.slice pa pn pc) := by rw [<- hw3]; exact Two.new _ _ _ _
 have p0 := T5.cell0; have p1 := T5.cell1; have T33 := T32.below HB3.o (by have := HS2.o; omega); have g0 := T33.cell0; have g1 := T33.cell1; have f0 := T33.frozen 0; have f1 := T33.frozen 1; have HT33 := hZ T33; clear hP hPm hB2 T32 T5 T33 d0 d1 d2 d3 T3
 go_wp2_with fail
 exact qDe HB2.o HB3.o HS2.o HT33.o HP.o hsp Hn.o (by intro W2 h0 h1; simp [results, Try.results45, go_sem, h0, h1]) rfl
theorem qJg (q X x P p b : Nat) (h : q * (X * b + x) <= P * b + p) (hp : p < b) : q * X <= P := by
 have h1 : q * (X * b) <= q * (X * b + x) := Nat.mul_le_mul_left _ (by omega); have h2 : q * X * b < (P + 1) * b := by
  rw [Nat.mul_assoc, Nat.add_mul, Nat.one_mul]; omega
 have := Nat.lt_of_mul_lt_mul_right h2; omega
structure Est (high d2 top p2 q : Nat) : Prop where
 h31 : 2147483648 <= high
 h32 : high < W2
 d2l : d2 < W2
 p2l : p2 < W2
 topl : top < high * W2 + W2
 q0 : q < W2
 q1 : q * high <= top
 q2 : q * (high * W2 + d2) <= top * W2 + p2
structure qMs (high d2 top p2 q digit rest : Nat) : Prop where
 eq : digit * high + rest = top
 ge : q <= digit
 dl : digit <= W2 + 1
 rl : rest < W2
theorem Est.start {high d2 top p2 q : Nat} (h : Est high d2 top p2 q) : qMs high d2 top p2 q (top / high) (top % high) := by
 have hp : 0 < high := by have := h.h31; omega
 have h1 := Nat.div_add_mod top high; refine ⟨by rw [Nat.mul_comm]; exact h1, (Nat.le_div_iff_mul_le hp).2 h.q1, ?_, Nat.lt_trans (Nat.mod_lt _ hp) h.h32⟩; have h2 : top < high * (W2 + 2) := by
  have h3 := h.topl; have h4 := h.h31; rw [Nat.mul_add]; unfold W2 at *; omega
 have := (Nat.div_lt_iff_lt_mul hp).2 (by rw [Nat.mul_comm]; exact h2); omega
theorem qMs.less {high d2 top p2 q digit rest : Nat} (h : Est high d2 top p2 q) (hi : qMs high d2 top p2 q digit rest) (hc : W2 <= digit \/ (digit < W2 /\ rest * W2 + p2 < digit * d2)) :
 0 < digit /\ q <= digit - 1 /\ (digit - 1) * high + (rest + high) = top := by
 have hq : q < digit := by
  rcases hc with hc | ⟨-, hc⟩
  ·exact Nat.lt_of_lt_of_le h.q0 hc
  ·rcases Nat.lt_or_ge q digit with h1 | h1
   ·exact h1
   ·have e : q = digit := Nat.le_antisymm hi.ge h1
    have h2 := h.q2; rw [e, <- hi.eq, Nat.mul_add, Nat.add_mul, <- Nat.mul_assoc] at h2; omega
 refine ⟨by omega, by omega, ?_⟩; have h1 := hi.eq; obtain ⟨d, rfl⟩ : ∃ d, digit = d + 1 := ⟨digit - 1, by omega⟩; rw [Nat.add_sub_cancel]; rw [Nat.add_mul, Nat.one_mul] at h1; omega
theorem Est.over {high d2 top p2 q digit rest : Nat} (h : Est high d2 top p2 q) (he : digit * high + rest = top) (hr : W2 <= rest) : digit < W2 := by
 rcases Nat.lt_or_ge digit W2 with h1 | h1
 ·exact h1
 ·have h2 : W2 * high <= digit * high := Nat.mul_le_mul_right _ h1
  have h3 := h.topl; rw [Nat.mul_comm high W2] at h3; omega
structure qKi (P D : List Nat) (Q i c b : Nat) (L : List Nat) : Prop where
 len : L.length = P.length
 low : Low W2 L
 cl : c < W2
 bl : b <= 1
 rest : L.drop i = P.drop i
 eq : val W2 (L.take i) + Q * val W2 (D.take i) = val W2 (P.take i) + (b + c) * W2 ^ i
theorem qKi.start (P D : List Nat) (Q : Nat) (hP : Low W2 P) : qKi P D Q 0 0 0 P :=
 ⟨rfl, hP, by decide, by omega, rfl, by simp [val]⟩
theorem qC0 (L : List Nat) (i x : Nat) (h : i < L.length) : val W2 ((L.set i x).take (i + 1)) = val W2 (L.take i) + x * W2 ^ i := by
 have hl : i < (L.set i x).length := by rw [List.length_set]; exact h
 rw [qAf W2 _ i hl, List.getElem_set_self, List.take_set_of_le (Nat.le_refl i)]
theorem qKi.next {P D : List Nat} {Q i c b : Nat} {L : List Nat} (h : qKi P D Q i c b L) (hi : i < L.length) (hd : i < D.length) (hQ : Q < W2) (hD : Low W2 D) (hP : i < P.length) :
 qKi P D Q (i + 1) ((c + Q * D[i]) / W2) (brw P[i] ((c + Q * D[i]) % W2) b) (L.set i (dif P[i] ((c + Q * D[i]) % W2) b)) /\ L[i] = P[i] /\ c + Q * D[i] < 18446744073709551616 := by
 have hLi : L[i] = P[i] := by
  have h1 := h.rest; rw [List.drop_eq_getElem_cons hi, List.drop_eq_getElem_cons hP] at h1; exact (List.cons.inj h1).1
 have hw : D[i] < W2 := hD _ (List.getElem_mem hd); have hm : Q * D[i] <= 4294967295 * 4294967295 := Nat.mul_le_mul (by unfold W2 at hQ; omega) (by unfold W2 at hw; omega); have hcl := h.cl; have hPl : P[i] < W2 := by rw [<- hLi]; exact h.low _ (List.getElem_mem hi)
 have ht : c + Q * D[i] < 18446744073709551616 := by unfold W2 at hcl; omega
 have hlo : (c + Q * D[i]) % W2 < W2 := Nat.mod_lt _ (by decide); have hdm := Nat.div_add_mod (c + Q * D[i]) W2; have hde := qJh P[i] ((c + Q * D[i]) % W2) b hlo h.bl; refine ⟨⟨by rw [List.length_set]; exact h.len, qAP h.low _ _ (qHC _ _ _ hPl h.bl), ?_, qHM _ _ _, ?_, ?_⟩, hLi, ht⟩
 ·refine (Nat.div_lt_iff_lt_mul (by decide)).2 ?_
  show _ < 4294967296 * 4294967296
  omega
 ·rw [List.drop_set_of_lt (by omega)]
  have h1 := h.rest; rw [List.drop_eq_getElem_cons hi, List.drop_eq_getElem_cons hP] at h1; exact (List.cons.inj h1).2
 ·rw [qC0 L i _ hi, qAf W2 D i hd, qAf W2 P i hP, Nat.pow_succ]
  have h1 := h.eq; generalize dif P[i] ((c + Q * D[i]) % W2) b = p' at *; generalize brw P[i] ((c + Q * D[i]) % W2) b = b' at *; generalize (c + Q * D[i]) % W2 = lo at *; generalize (c + Q * D[i]) / W2 = c' at *; generalize W2 ^ i = X at *; generalize val W2 (L.take i) = l at *; generalize val W2 (D.take i) = d at *; generalize val W2 (P.take i) = p at *; generalize D[i] = w at *; generalize P[i] = u at *; generalize W2 = B at *
  grind
theorem qKi.last {P D : List Nat} {Q n c b : Nat} {L : List Nat} (h : qKi P D Q n c b L) (hD : D.length = n) (hP : P.length = n + 1) (hn : n < P.length) (x f : Nat) (hx : x + (c + b) = P[n] + f * W2) :
 val W2 (L.set n x) + Q * val W2 D = val W2 P + f * W2 ^ (n + 1) := by
 have hln : n < L.length := by rw [h.len]; exact hn
 have h1 := h.eq; rw [List.take_of_length_le (l := D) (by omega)] at h1; have h2 : val W2 (L.set n x) = val W2 (L.take n) + x * W2 ^ n := by
  rw [<- qC0 L n x hln, List.take_of_length_le (by rw [List.length_set, h.len]; omega)]
 have h3 : val W2 P = val W2 (P.take n) + P[n] * W2 ^ n := by
  rw [<- qAf W2 P n hn, List.take_of_length_le (by omega)]
 rw [h2, h3, Nat.pow_succ]; generalize W2 ^ n = X at *; generalize val W2 (L.take n) = l at *; generalize val W2 D = d at *; generalize val W2 (P.take n) = p at *; generalize P[n] = u at *; generalize W2 = B at *
 grind
open Go.RowKit
theorem qDH (n : Nat) (h : 1 <= n) : W2 ^ n = W2 * W2 ^ (n - 1) := by
 obtain ⟨m, rfl⟩ : ∃ m, n = m + 1 := ⟨n - 1, by omega⟩; rw [Nat.add_sub_cancel, Nat.pow_succ, Nat.mul_comm]
theorem qJD (P : List Nat) (n : Nat) (hP : P.length = n + 1) (hn : 1 <= n) (h0 : n < P.length) (h1 : n - 1 < P.length) : val W2 P = (P[n] * W2 + P[n - 1]) * W2 ^ (n - 1) + val W2 (P.take (n - 1)) := by
 have e1 : val W2 P = val W2 (P.take n) + P[n] * W2 ^ n := by rw [<- qAf W2 P n h0, List.take_of_length_le (by omega)]
 have e2 := qAf W2 P (n - 1) h1; rw [show n - 1 + 1 = n by omega] at e2; rw [e1, e2, qDH n hn]; generalize W2 ^ (n - 1) = X; generalize P[n] = a; generalize P[n - 1] = b; generalize val W2 (P.take (n - 1)) = c; generalize W2 = B
 grind
theorem qEQ (D : List Nat) (n : Nat) (hD : D.length = n) (hn : 1 <= n) (h1 : n - 1 < D.length) : val W2 D = D[n - 1] * W2 ^ (n - 1) + val W2 (D.take (n - 1)) := by
 have e2 := qAf W2 D (n - 1) h1; rw [show n - 1 + 1 = n by omega, List.take_of_length_le (by omega)] at e2; rw [e2]; omega
theorem qBK (P : List Nat) (k : Nat) (hP : Low W2 P) (hk : k <= P.length) : val W2 (P.take k) < W2 ^ k := by
 have := qBd W2 (by decide) (P.take k) (qDa hP k)
 rwa [List.length_take, Nat.min_eq_left hk] at this
theorem qMf (P D : List Nat) (n : Nat) (hP : P.length = n + 1) (hD : D.length = n) (hn : 2 <= n) (lP : Low W2 P) (lD : Low W2 D) (i0 : n < P.length) (i1 : n - 1 < P.length) (i2 : n - 2 < P.length) (j1 : n - 1 < D.length) (j2 : n - 2 < D.length)
 (h31 : 2147483648 <= D[n - 1]) (hlt : val W2 P < val W2 D * W2) :
 Est D[n - 1] D[n - 2] (P[n] * W2 + P[n - 1]) P[n - 2] (val W2 P / val W2 D) := by
 have eP := qJD P n hP (by omega) i0 i1; have eD := qEQ D n hD (by omega) j1; have tP := qBK P (n - 1) lP (by omega); have tD := qBK D (n - 1) lD (by omega); have tP2 := qBK P (n - 2) lP (by omega); have hh : D[n - 1] < W2 := lD _ (List.getElem_mem _); have hq := Nat.div_mul_le_self (val W2 P) (val W2 D); have sP := qAf W2 P (n - 2) i2; have sD := qAf W2 D (n - 2) j2; rw [show n - 2 + 1 = n - 1 by omega] at sP sD; have hX : W2 ^ (n - 1) = W2 * W2 ^ (n - 2) := by rw [qDH (n - 1) (by omega), Nat.sub_sub]
 have hXp : 0 < W2 ^ (n - 1) := Nat.pow_pos (by decide); refine ⟨h31, hh, lD _ (List.getElem_mem _), lP _ (List.getElem_mem _), ?_, ?_, ?_, ?_⟩
 ·have h1 : (P[n] * W2 + P[n - 1]) * W2 ^ (n - 1) < (D[n - 1] * W2 + W2) * W2 ^ (n - 1) := by
   have h2 : val W2 D < (D[n - 1] + 1) * W2 ^ (n - 1) := by rw [eD, Nat.add_mul, Nat.one_mul]; omega
   have h3 : val W2 D * W2 < (D[n - 1] + 1) * W2 ^ (n - 1) * W2 := Nat.mul_lt_mul_of_pos_right h2 (by decide); have h4 : (D[n - 1] + 1) * W2 ^ (n - 1) * W2 = (D[n - 1] * W2 + W2) * W2 ^ (n - 1) := by
    generalize W2 ^ (n - 1) = X; generalize D[n - 1] = d; generalize W2 = B
    grind
   omega
  exact Nat.lt_of_mul_lt_mul_right h1
 ·refine Nat.div_lt_of_lt_mul ?_
  exact hlt
 ·exact qJg _ _ (val W2 (D.take (n - 1))) _ (val W2 (P.take (n - 1))) (W2 ^ (n - 1)) (by rw [<- eD, <- eP]; exact hq) tP
 ·refine qJg _ _ (val W2 (D.take (n - 2))) _ (val W2 (P.take (n - 2))) (W2 ^ (n - 2)) ?_ tP2
  have f1 : (D[n - 1] * W2 + D[n - 2]) * W2 ^ (n - 2) + val W2 (D.take (n - 2)) = val W2 D := by
   rw [eD, sD, hX]; generalize W2 ^ (n - 2) = X; generalize D[n - 1] = d; generalize D[n - 2] = d'; generalize W2 = B
   grind
  have f2 : ((P[n] * W2 + P[n - 1]) * W2 + P[n - 2]) * W2 ^ (n - 2) + val W2 (P.take (n - 2)) = val W2 P := by
   rw [eP, sP, hX]; generalize W2 ^ (n - 2) = X; generalize P[n] = a; generalize P[n - 1] = b; generalize P[n - 2] = c; generalize W2 = B
   grind
  rw [f1, f2]; exact hq
theorem qJ9 (pb poff pc db doff dc n : Nat) (pn pn1 pn2 dn1 dn2 q : Nat) (w : World) (hn : 2 <= n) (hn2 : n <= 1048576) (hpc : n + 1 <= pc) (hpc2 : pc <= 9223372036854775807) (hdc : n <= dc) (hdc2 : dc <= 9223372036854775807)
 (c1 : w.cell? ⟨pb, poff + n, none⟩ = some (.int .u32 (pn : Int))) (c2 : w.cell? ⟨pb, poff + (n - 1), none⟩ = some (.int .u32 (pn1 : Int))) (c3 : w.cell? ⟨pb, poff + (n - 2), none⟩ = some (.int .u32 (pn2 : Int)))
 (c4 : w.cell? ⟨db, doff + (n - 1), none⟩ = some (.int .u32 (dn1 : Int))) (c5 : w.cell? ⟨db, doff + (n - 2), none⟩ = some (.int .u32 (dn2 : Int)))
 (l1 : pn < 4294967296) (l2 : pn1 < 4294967296) (hE : Est dn1 dn2 (pn * W2 + pn1) pn2 q) :
 Calls Try.prog 86 #[.slice (some ⟨pb, poff, none⟩) (n + 1) pc, .slice (some ⟨db, doff, none⟩) n dc] w fun e w' => ∃ Q d, e = .returned (.int .u64 (Q : Nat)) /\ q <= Q /\ Q < W2 /\ w' = w.drewN d := by
 have HE := hZ hE; have l3 := hE.h32; have l4 := hE.h31; have l5 := hE.d2l; have l6 := hE.p2l; unfold W2 at l3 l5 l6; have hor := qIN pn pn1 l1 l2; obtain ⟨top, ht⟩ := eX (pn * 4294967296 + pn1); rw [ht] at hor; have htl : top < 18446744073709551616 := by omega
 have Ht := hZ ht; have hne : ((dn1 : Int) == 0) = false := by simp; omega
 have i1 : (0 : Int) <= (n : Int) - 1 := by omega
 have i2 : (n : Int) - 1 < (n : Int) := by omega
 have i3 : ((n : Int) - 1).toNat = n - 1 := by omega
 have hw1 : IntKind.i64.wrap ((n : Int) - 1) = (n : Int) - 1 := IntWalk.i64_in _ (by omega); clear hE
 go_enter Try.func86, Try.ntmps86
 go_wp2_with fail
 go_quiet (fail)
 go_wp2_with fail
 obtain ⟨W1, hW1⟩ := eX (w.drewN nq); have e1 : W1.cell? ⟨pb, poff + (n - 2), none⟩ = some (.int .u32 (pn2 : Int)) := by rw [<- hW1]; exact c3
 have e2 : W1.cell? ⟨db, doff + (n - 2), none⟩ = some (.int .u32 (dn2 : Int)) := by rw [<- hW1]; exact c5
 have HW1 := hZ hW1; rw [hW1]; clear hW1 c1 c2 c3 c4 c5 hw1 i1 i2 i3 hor; have HI0 := hZ HE.o.start; rw [show pn * W2 + pn1 = top from Ht.o] at HI0 HE; obtain ⟨D0, hD0⟩ := eX (top / dn1); obtain ⟨R0, hR0⟩ := eX (top % dn1); rw [hD0, hR0] at HI0; have q1 : (top : Int) / (dn1 : Int) = (D0 : Int) := by rw [<- hD0, Int.natCast_ediv]
 have q2 : (top : Int) % (dn1 : Int) = (R0 : Int) := by rw [<- hR0, Int.natCast_emod]
 have q3 : (top : Int).tdiv (dn1 : Int) = (D0 : Int) := by rw [Int.tdiv_eq_ediv_of_nonneg (by omega), q1]
 have q4 : (top : Int).tmod (dn1 : Int) = (R0 : Int) := by rw [Int.tmod_eq_emod_of_nonneg (by omega), q2]
 have q5 : D0 <= 4294967297 := HI0.o.dl; have q6 : R0 < 4294967296 := HI0.o.rl; have q7 : IntKind.u64.wrap (D0 : Int) = (D0 : Int) := by rw [IntKind.wrap_u64]; omega
 clear hD0 hR0 ht
 go_quiet (fail)
 go_wp2_with fail
 clear q1 q2 q3 q4 q5 q6 q7
 go_loopw [8, 9] (fun dv rv wr => ∃ (D R d : Nat), dv = .int .u64 (D : Int) /\ rv = .int .u64 (R : Int) /\ Hid (qMs dn1 dn2 top pn2 q D R) /\ Hid (wr = W1.drewN d)) (fun dv _ _ => qIs dv)
 case atStart => exact ⟨D0, R0, nq, rfl, rfl, HI0, hZ rfl⟩
 case round =>
  obtain ⟨D, R, d, rfl, rfl, hI, hw⟩ := hrel; have e3 : wr.cell? ⟨pb, poff + (n - 2), none⟩ = some (.int .u32 (pn2 : Int)) := by rw [hw.o]; exact e1
  have e4 : wr.cell? ⟨db, doff + (n - 2), none⟩ = some (.int .u32 (dn2 : Int)) := by rw [hw.o]; exact e2
  have dl : D <= 4294967297 := hI.o.dl; have rl : R < 4294967296 := hI.o.rl; have i1 : (0 : Int) <= (n : Int) - 2 := by omega
  have i2 : (n : Int) - 2 < (n : Int) := by omega
  have i2' : (n : Int) - 2 < (n : Int) + 1 := by omega
  have i3 : ((n : Int) - 2).toNat = n - 2 := by omega
  have hw1 : IntKind.i64.wrap ((n : Int) - 2) = (n : Int) - 2 := IntWalk.i64_in _ (by omega); have hret : ∀ Q : Nat, q <= Q -> Q < 4294967296 -> ∀ d2, ∃ Q' d', Ending.returned (Value.int .u64 (Q : Int)) = .returned (.int .u64 ((Q' : Nat) : Int)) /\ q <= Q' /\ Q' < W2 /\ wr.drewN d2 = w.drewN d' := fun Q a b d2 =>
   ⟨Q, _, rfl, a, b, by rw [hw.o, <- HW1.o, World.drewN_drewN, World.drewN_drewN]⟩
  have Hret := hZ hret; clear hret; by_cases hbig : 4294967296 <= D
  ·have hl := hI.o.less HE.o (.inl hbig)
   have hg : decide (4294967295 < (D : Int)) = true := decide_eq_true (by omega); have Hl := hZ hl; have hDp := hl.1; clear hl; obtain ⟨D1, hD1⟩ := eX (D - 1); have hDI : (D : Int) - 1 = (D1 : Int) := by omega
   have hD1l : D1 < D := by omega
   have hD1m : D1 <= 4294967297 := by omega
   rw [hD1] at Hl; clear hD1; by_cases hov : R + dn1 <= 4294967295
   ·go_wp2_with fail
    go_quiet (fail)
    go_wp2_with fail
    go_roundw
    case rel => exact ⟨D1, R + dn1, _, rfl, by go_num, hZ ⟨Hl.o.2.2, Hl.o.2.1, hD1m, by unfold W2; omega⟩, hZ (by rw [hw.o, World.drewN_drewN])⟩
    case measure => simp [qIs]; omega
   ·have Hov := hZ (HE.o.over Hl.o.2.2 (by unfold W2; omega))
    go_wp2_with fail
    go_quiet (fail)
    go_wp2
    go_ret; exact Hret.o D1 Hl.o.2.1 Hov.o _
  ·have hg : decide (4294967295 < (D : Int)) = false := decide_eq_false (by omega)
   have hmm : D * dn2 <= 4294967295 * 4294967295 := Nat.mul_le_mul (by omega) (by omega); obtain ⟨M, hM⟩ := eX (D * dn2); have hMI : (D : Int) * (dn2 : Int) = (M : Int) := by rw [<- hM, Int.natCast_mul]
   rw [hM] at hmm; have hMw : IntKind.u64.wrap (M : Int) = (M : Int) := by rw [IntKind.wrap_u64]; omega
   have hor := qIN R pn2 rl l6; obtain ⟨N, hN⟩ := eX (R * 4294967296 + pn2); rw [hN] at hor; have hrw : IntKind.u64.wrap ((R : Int) * 4294967296) = (R : Int) * 4294967296 := by rw [IntKind.wrap_u64]; omega
   have hNl : N < 18446744073709551616 := by omega
   by_cases hgt : N < M
   ·have hl := hI.o.less HE.o (.inr ⟨by unfold W2; omega, by rw [hM]; unfold W2; omega⟩)
    have hgM : decide ((N : Int) < (M : Int)) = true := decide_eq_true (by omega); clear hN hM; have Hl := hZ hl; have hDp := hl.1; clear hl; obtain ⟨D1, hD1⟩ := eX (D - 1); have hDI : (D : Int) - 1 = (D1 : Int) := by omega
    have hD1l : D1 < D := by omega
    have hD1m : D1 <= 4294967297 := by omega
    rw [hD1] at Hl; clear hD1; by_cases hov : R + dn1 <= 4294967295
    ·go_wp2_with fail
     go_quiet (fail)
     go_wp2_with fail
     go_roundw
     case rel => exact ⟨D1, R + dn1, _, rfl, by go_num, hZ ⟨Hl.o.2.2, Hl.o.2.1, hD1m, by unfold W2; omega⟩, hZ (by rw [hw.o, World.drewN_drewN])⟩
     case measure => simp [qIs]; omega
    ·have Hov := hZ (HE.o.over Hl.o.2.2 (by unfold W2; omega))
     go_wp2_with fail
     go_quiet (fail)
     go_wp2
     go_ret; exact Hret.o D1 Hl.o.2.1 Hov.o _
   ·have hgM : decide ((N : Int) < (M : Int)) = false := decide_eq_false (by omega)
    have Hge := hZ hI.o.ge; clear hN hM
    go_wp2_with fail
    go_quiet (fail)
    go_wp2
    go_ret; exact Hret.o D Hge.o (by omega) _
theorem qLn (vp vd : Value) (P D : List Nat) (n : Nat) (w : World) (hp : qAd .u32 w vp P) (hd : qAd .u32 w vd D) (hP : P.length = n + 1) (hD : D.length = n) (hn : 2 <= n) (hn2 : n <= 1048576) (lP : Low W2 P) (lD : Low W2 D)
 (j1 : n - 1 < D.length) (h31 : 2147483648 <= D[n - 1]) (hlt : val W2 P < val W2 D * W2) :
 Calls Try.prog 86 #[vp, vd] w fun e w' => ∃ Q d, e = .returned (.int .u64 (Q : Nat)) /\ val W2 P / val W2 D <= Q /\ Q < W2 /\ w' = w.drewN d := by
 obtain ⟨pa, pc, rfl, p1, p2, hpc⟩ := hp; obtain ⟨da, dc, rfl, d1, d2, hdc⟩ := hd; obtain ⟨pb, poff, rfl, _, hpcc⟩ := hpc (by omega); obtain ⟨db, doff, rfl, _, hdcc⟩ := hdc (by omega); have i0 : n < P.length := by omega
 have i1 : n - 1 < P.length := by omega
 have i2 : n - 2 < P.length := by omega
 have j2 : n - 2 < D.length := by omega
 have hE := qMf P D n hP hD hn lP lD i0 i1 i2 j1 j2 h31 hlt; have key := qJ9 pb poff pc db doff dc n P[n] P[n - 1] P[n - 2] D[n - 1] D[n - 2] (val W2 P / val W2 D) w hn hn2 (by omega) p2 (by omega) d2 (hpcc n i0) (hpcc (n - 1) i1) (hpcc (n - 2) i2) (hdcc (n - 1) j1) (hdcc (n - 2) j2) (lP _ (List.getElem_mem _)) (lP _ (List.getElem_mem _)) hE; rw [<- hP] at key; rw [hD] at *; exact key
open Go.RowKit
theorem qK9 (A P C : List Nat) (i : Nat) (h : i < P.length) (h' : A.length + i < (A ++ P ++ C).length) : (A ++ P ++ C)[A.length + i] = P[i] := by
 rw [List.getElem_append_left (by rw [List.length_append]; omega), List.getElem_append_right (by omega)]
 congr 1
 omega
theorem qK8 (A P C : List Nat) (i x : Nat) (h : i < P.length) : (A ++ P ++ C).set (A.length + i) x = A ++ P.set i x ++ C := by
 rw [List.set_append_left _ _ (by rw [List.length_append]; omega), List.set_append_right _ _ (by omega), Nat.add_sub_cancel_left]
section
variable {w : World} {g : Nat} {A P C : List Nat}
theorem Blk.mid (h : Blk w g 88 .u32 (A ++ P ++ C)) (i : Nat) (hi : i < P.length) : w.cell? ⟨g, A.length + i, none⟩ = some (.int .u32 (P[i] : Int)) := by
 have hl : A.length + i < (A ++ P ++ C).length := by rw [List.length_append, List.length_append]; omega
 have := h.cell (A.length + i) hl; rw [qK9 A P C i hi hl] at this; exact this
theorem Blk.midset (h : Blk w g 88 .u32 (A ++ P ++ C)) (i x : Nat) (hi : i < P.length) : Blk (w.setCell ⟨g, A.length + i, none⟩ (.int .u32 (x : Int))) g 88 .u32 (A ++ P.set i x ++ C) := by
 have := h.set (A.length + i) x; rw [qK8 A P C i x hi] at this; exact this
end
theorem qKg (t : Nat) (h : t < 18446744073709551616) : bits BinOp.and IntKind.u64 (t : Int) 4294967295 = ((t % 4294967296 : Nat) : Int) := by
 have h1 := u64_and_nat t 4294967295 h (by omega); have h2 : t &&& 4294967295 = t % 4294967296 := Nat.and_two_pow_sub_one_eq_mod t 32; rw [h2] at h1; exact h1
theorem qHa (p lo b : Nat) (hp : p < 4294967296) (hlo : lo < 4294967296) (hb : b <= 1) (T D : Int) (hT : T = ((p : Int) - lo) % 18446744073709551616) (hD : D = (T - b) % 18446744073709551616) :
 D % 4294967296 = (dif p lo b : Int) /\ D / 9223372036854775808 = (brw p lo b : Int) := qHB p lo b hp hlo hb T D hT hD
def qJs (g n Q : Nat) (A Pt C D : List Nat) (w : World) (e : Ending) (w' : World) : Prop :=
 ∃ Pt' f, e = .returned (.bool (decide (f = 1))) /\ Blk w' g 88 .u32 (A ++ Pt' ++ C) /\ Pt'.length = n + 1 /\ Low W2 Pt' /\ f <= 1 /\ val W2 Pt' + Q * val W2 D = val W2 Pt + f * W2 ^ (n + 1) /\ qAb (fun k => k = g) w w'
theorem qES (g at_ pc db doff dc n Q : Nat) (A Pt C D : List Nat) (w : World) (hA : A.length = at_) (hP : Pt.length = n + 1) (hD : D.length = n) (hn2 : n <= 1048576) (hat : at_ <= 1048576) (hpc : n + 1 <= pc) (hpc2 : pc <= 9223372036854775807) (hdc : n <= dc) (hdc2 : dc <= 9223372036854775807) (hQ : Q < 4294967296)
 (hblk : Blk w g 88 .u32 (A ++ Pt ++ C)) (lP : Low W2 Pt) (lD : Low W2 D) (hdg : db ≠ g) (hdb : db < w.heap.size) (hdcc : ∀ j (h : j < D.length), w.cell? ⟨db, doff + j, none⟩ = some (.int .u32 (D[j] : Int))) :
 Calls Try.prog 87 #[.slice (some ⟨g, at_, none⟩) (n + 1) pc, .slice (some ⟨db, doff, none⟩) n dc, .int .u64 (Q : Int)] w (qJs g n Q A Pt C D w) := by
 have HB := hZ hblk; have HlD := hZ lD; have Hdc := hZ hdcc; have HA := hZ hA; have HP := hZ hP; have HD := hZ hD; have HI0 := hZ (qKi.start Pt D Q lP); clear hblk lP lD hdcc hA hP hD
 go_enter Try.func87, Try.ntmps87
 go_wp2_with fail
 go_loopw [8, 9, 18] (fun cv bv iv' wr => ∃ (i c b : Nat) (L : List Nat), i <= n /\ cv = .int .u64 (c : Int) /\ bv = .int .u64 (b : Int) /\ iv' = .int .i64 (i : Int) /\ Hid (qKi Pt D Q i c b L) /\ Hid (Blk wr g 88 .u32 (A ++ L ++ C)) /\ Hid (qAb (fun k => k = g) w wr)) (fun _ _ v _ => n - (intOf v).toNat)
 case atStart => exact ⟨0, 0, 0, Pt, by omega, rfl, rfl, rfl, HI0, HB, hZ (qAb.refl _ _)⟩
 case round =>
  obtain ⟨i, c, b, L, hi, rfl, rfl, rfl, hI, hbl, hO⟩ := hrel; have cl : c < 4294967296 := hI.o.cl; have bl : b <= 1 := hI.o.bl; have hLl : L.length = n + 1 := by rw [hI.o.len, HP.o]
  by_cases hlt : i < n
  ·have hd : i < D.length := by rw [HD.o]; exact hlt
   have hp : i < Pt.length := by rw [HP.o]; omega
   have hl : i < L.length := by omega
   obtain ⟨hN, hLi, ht⟩ := hI.o.next hl hd hQ HlD.o hp; have HN := hZ hN; have c1 := (hO.o.cell (p := ⟨db, doff + i, none⟩) hdg hdb).trans (Hdc.o i hd); have c2 := hbl.o.mid i hl; rw [HA.o, hLi] at c2; have f2 := hbl.o.frozen (at_ + i); have hwl : D[i] < 4294967296 := HlD.o _ (List.getElem_mem hd); have hpl : Pt[i] < 4294967296 := by rw [<- hLi]; exact hI.o.low _ (List.getElem_mem hl)
   have Hset := hZ (fun (W : World) (x : Nat) (hW : Blk W g 88 .u32 (A ++ L ++ C)) => hW.midset i x hl); rw [HA.o] at Hset; generalize D[i] = wd at *; generalize Pt[i] = pp at *; have hmm : Q * wd <= 4294967295 * 4294967295 := Nat.mul_le_mul (by omega) (by omega); obtain ⟨M, hM⟩ := eX (Q * wd); have hMI : (Q : Int) * (wd : Int) = (M : Int) := by rw [<- hM, Int.natCast_mul]
   rw [hM] at hmm ht HN; obtain ⟨t, htt⟩ := eX (c + M); rw [htt] at ht HN; have htI : (c : Int) + (M : Int) = (t : Int) := by omega
   have hand := qKg t ht; obtain ⟨lo, hlo⟩ := eX (t % 4294967296); have hlo' : t % W2 = lo := hlo; rw [hlo] at hand; rw [hlo'] at HN; have hlol : lo < 4294967296 := by omega
   obtain ⟨c', hc'⟩ : ∃ c', t / 4294967296 = c' := ⟨_, rfl⟩; have hc'' : t / W2 = c' := hc'; rw [hc''] at HN; have hcI : (t : Int) / 4294967296 = (c' : Int) := by omega
   obtain ⟨T, hT⟩ : ∃ T : Int, T = ((pp : Int) - lo) % 18446744073709551616 := ⟨_, rfl⟩; obtain ⟨E, hE⟩ : ∃ E : Int, E = (T - b) % 18446744073709551616 := ⟨_, rfl⟩; have hdw := hZ (qHa pp lo b hpl hlol bl T E hT hE); have b1 : IntKind.u64.wrap ((pp : Int) - lo) = T := by rw [hT, IntKind.wrap_u64]
   have b2 : IntKind.u64.wrap (T - b) = E := by rw [hE, IntKind.wrap_u64]
   have hT0 : 0 <= T := by omega
   have hT1 : T <= 18446744073709551615 := by omega
   have hE0 : 0 <= E := by omega
   have hE1 : E <= 18446744073709551615 := by omega
   clear hT hE hM htt hlo hlo' hc' hc'' hN hLi
   go_wp2_with fail
   go_roundw
   case rel =>
    rw [hdw.o.1, hdw.o.2]; exact ⟨i + 1, c', brw pp lo b, L.set i (dif pp lo b), by omega, rfl, rfl, by go_num, HN, hZ (Hset.o wr _ hbl.o), hZ (hO.o.set (p := ⟨g, at_ + i, none⟩) rfl _)⟩
   case measure => simp [intOf]; omega
  ·obtain rfl : i = n := by omega
   have hp : i < Pt.length := by rw [HP.o]; omega
   have hl : i < L.length := by omega
   have hLi : L[i] = Pt[i] := by
    have h1 := hI.o.rest; rw [List.drop_eq_getElem_cons hl, List.drop_eq_getElem_cons hp] at h1; exact (List.cons.inj h1).1
   have c2 := hbl.o.mid i hl; rw [HA.o, hLi] at c2; have f2 := hbl.o.frozen (at_ + i); have hpl : Pt[i] < 4294967296 := by rw [<- hLi]; exact hI.o.low _ (List.getElem_mem hl)
   have Hset := hZ (fun (W : World) (x : Nat) (hW : Blk W g 88 .u32 (A ++ L ++ C)) => hW.midset i x hl); rw [HA.o] at Hset; have Hlast := hZ (fun x f hx => hI.o.last HD.o HP.o hp x f hx); have Hlow := hZ hI.o.low; generalize Pt[i] = pp at *; obtain ⟨T, hT⟩ : ∃ T : Int, T = ((pp : Int) - c) % 18446744073709551616 := ⟨_, rfl⟩; obtain ⟨E, hE⟩ : ∃ E : Int, E = (T - b) % 18446744073709551616 := ⟨_, rfl⟩; have hdw0 := qHa pp c b hpl cl bl T E hT hE; have b1 : IntKind.u64.wrap ((pp : Int) - c) = T := by rw [hT, IntKind.wrap_u64]
   have b2 : IntKind.u64.wrap (T - b) = E := by rw [hE, IntKind.wrap_u64]
   have hT0 : 0 <= T := by omega
   have hT1 : T <= 18446744073709551615 := by omega
   have hE0 : 0 <= E := by omega
   have hE1 : E <= 18446744073709551615 := by omega
   have hfe := qJh pp c b cl bl; have hdl : dif pp c b < W2 := qHC pp c b hpl bl; have hf1 := qHM pp c b; obtain ⟨f, hf⟩ := eX (brw pp c b); obtain ⟨x, hx⟩ := eX (dif pp c b); rw [hf, hx] at hdw0; rw [hx] at hdl hfe; rw [hf] at hf1 hfe; have hq1 := hdw0.1; have hq2 := hdw0.2; have Hv := hZ (Hlast.o x f (by omega)); have hres : ∀ W : World, W = wr.setCell ⟨g, at_ + i, none⟩ (.int .u32 (x : Int)) -> qJs g i Q A Pt C D w (.returned (.bool (decide (f = 1)))) W := by
    rintro W rfl; exact ⟨L.set i x, f, rfl, Hset.o wr x hbl.o, by rw [List.length_set]; exact hLl, qAP Hlow.o _ _ hdl, hf1, Hv.o, hO.o.set (p := ⟨g, at_ + i, none⟩) rfl _⟩
   have Hres := hZ hres; clear hT hE hf hx hfe hdw0 hLi hres; rcases (show f = 0 \/ f = 1 by omega) with rfl | rfl
   ·have hq3 : E / 9223372036854775808 = 0 := hq2
    clear hq2
    go_wp2_with fail
    go_ret; exact Hres.o _ rfl
   ·have hq3 : E / 9223372036854775808 = 1 := hq2
    clear hq2
    go_wp2_with fail
    go_ret; exact Hres.o _ rfl
end Go.Proofs.Ytlmbebbdamgfpaa
