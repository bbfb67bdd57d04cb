/- wide: divideShort, and where its quotient lies. -/
import Derived.Deep.RegionHeld3
import Derived.Lib.Hide
import Derived.Test.YtlmbebbdamgfpaaQHLMat
import Derived.Test.YtlmbebbdamgfpaaQHWTimes
set_option linter.unusedVariables false
set_option linter.unusedSimpArgs false
set_option maxHeartbeats 4000000
set_option maxRecDepth 100000
namespace Go.Proofs.Ytlmbebbdamgfpaa
open Go
section
variable {P : Program} {md : Region.Mode} {ops : Array Oper} {Q : Exit -> Act -> World -> Prop} {S : World -> Prop} {late : List Nat}
def qAB (P : Program) (md : Region.Mode) (ops : Array Oper) (Q : Exit -> Act -> World -> Prop) (S : World -> Prop) (late : List Nat) : Nat -> Array Bool -> Act -> World -> Prop
 | 0, listed, a, w => Region.ready md ops listed = [] /\ Q .normal a w
 | fuel + 1, listed, a, w =>
  (Region.ready md ops listed = [] -> Q .normal a w) /\
  ∀ i ∈ Region.ready md ops listed, wpOp P ops Q i (fun a' w' => (i ∉ late -> S w -> S w') /\ qAB P md ops Q S late fuel (listed.setIfInBounds i true) a' w') a w
theorem qEM : ∀ (fuel : Nat) (listed : Array Bool) (a : Act) (w : World), qAB P md ops Q S late fuel listed a w -> wpAny P md ops Q fuel listed a w
 | 0, _, _, _, h => h
 | fuel + 1, _, _, _, h => ⟨h.1, fun i hi => wpOp_mono (fun a' w' h' => qEM fuel _ a' w' h'.2) (h.2 i hi)⟩
def qFO (md : Region.Mode) (ops : Array Oper) (i : Nat) : Nat -> Nat -> Bool
 | 0, _ => false
 | f + 1, l => match ops[l]? with
  | some o => o.after.any fun e => Region.binds md e && (e.on == i || qFO md ops i f e.on)
  | none => false
def qED (md : Region.Mode) (ops : Array Oper) (listed : Array Bool) : Prop := ∀ j, listed.getD j false = true -> ∀ o, ops[j]? = some o -> ∀ e ∈ o.after, Region.binds md e = true -> listed.getD e.on false = true
def qCZ (md : Region.Mode) (ops : Array Oper) (listed : Array Bool) : Bool := (List.range ops.size).all fun j => !(listed.getD j false) || match ops[j]? with
 | some o => o.after.all fun e => !(Region.binds md e) || listed.getD e.on false
 | none => true
theorem qGy {listed : Array Bool} (h : qCZ md ops listed = true) : qED md ops listed := by
 intro j hj o ho e he hb; unfold qCZ at h; rw [List.all_eq_true] at h; have h1 := h j (by rw [List.mem_range]; exact (Array.getElem?_eq_some_iff.1 ho).1); rw [hj, ho] at h1; simp only [Bool.not_true, Bool.false_or, Array.all_eq_true_iff_forall_mem] at h1; have h2 := h1 e he; rw [hb] at h2; simpa using h2
theorem qED.set {listed : Array Bool} {i : Nat} (h : qED md ops listed) (hr : i ∈ Region.ready md ops listed) : qED md ops (listed.setIfInBounds i true) := by
 intro j hj o ho e he hb; by_cases hij : i = j
 ·subst hij
  obtain ⟨_, o', ho', hall⟩ := mem_ready.1 hr; rw [ho] at ho'; injection ho' with ho'; subst ho'; exact getD_set_true (hall e he hb)
 ·rw [getD_set_ne false hij] at hj
  exact getD_set_true (h j hj o ho e he hb)
theorem qC2 {i : Nat} {listed : Array Bool} (hc : qED md ops listed) : ∀ (f l : Nat), qFO md ops i f l = true -> (∀ o, ops[l]? = some o -> ∀ e ∈ o.after, Region.binds md e = true -> listed.getD e.on false = true) -> listed.getD i false = true
 | 0, l, h, _ => by simp [qFO] at h
 | f + 1, l, h, hl => by
  unfold qFO at h; cases ho : ops[l]? with
  | none => rw [ho] at h; simp at h
  | some o =>
   rw [ho] at h; simp only [Array.any_eq_true', Bool.and_eq_true, Bool.or_eq_true, beq_iff_eq] at h; obtain ⟨e, he, hb, h⟩ := h; have h1 := hl o ho e he hb; rcases h with h | h
   ·rw [<- h]; exact h1
   ·exact qC2 hc f e.on h (hc e.on h1)
def qDN (md : Region.Mode) (ops : Array Oper) (late : List Nat) (i : Nat) : Bool := late.all fun l => i != l && qFO md ops i ops.size l
theorem qJK {i j : Nat} {listed : Array Bool} (hc : qED md ops listed) (hw : qDN md ops late i = true) (hr : i ∈ Region.ready md ops listed) (hj : j ∈ Region.ready md ops listed) : j ∉ late := fun hl => by
 unfold qDN at hw; rw [List.all_eq_true] at hw; have h1 := hw j hl; simp only [Bool.and_eq_true] at h1; have h2 := qC2 hc _ _ h1.2 (fun o ho => by
  obtain ⟨_, o', ho', hall⟩ := mem_ready.1 hj; rw [ho] at ho'; injection ho' with ho'; subst ho'; exact hall)
 have h0 := (mem_ready.1 hr).1; rcases Nat.lt_or_ge i listed.size with h' | h'
 ·simp [h'] at h0 h2
  rw [h0] at h2; cases h2
 ·simp [Array.getElem?_eq_none h'] at h2
theorem qDL {i : Nat} {oi : Oper} {v : Value} (hi : ops[i]? = some oi) (hsel : ∀ (j : Nat) (o : Oper) cs b, ops[j]? = some o -> o.op ≠ .select cs b)
 (hQ : ∀ c a w, Q (.panic c) (a.put oi.dst v) w -> Q (.panic c) a w) (hwt : qDN md ops late i = true) (fuel : Nat) :
 ∀ (listed : Array Bool) (a : Act) (w : World), qED md ops listed ->
  (∀ j oj, ops[j]? = some oj -> j ≠ i -> listed.getD j true = false -> (∀ e ∈ oj.after, Region.binds md e = true -> e.on ≠ i) -> oi.apart ops oj = true) ->
  i ∈ Region.ready md ops listed -> YieldsIf P ops S oi v a -> S w ->
  qAB P md ops Q S late fuel (listed.setIfInBounds i true) (a.put oi.dst v) w -> qAB P md ops Q S late (fuel + 1) listed a w := by
 induction fuel with
 | zero =>
  intro listed a w hc _ hr hy hS H; refine ⟨fun h => absurd hr (by rw [h]; simp), fun j hj => ?_⟩; by_cases hji : j = i
  ·subst hji
   exact hy.wpOp hi hS ⟨fun _ _ => hS, H⟩
  ·exact absurd (ready_mono hj hji) (by rw [H.1]; simp)
 | succ fuel ih =>
  intro listed a w hc hfree hr hy hS H; refine ⟨fun h => absurd hr (by rw [h]; simp), fun j hj => ?_⟩; by_cases hji : j = i
  ·subst hji
   exact hy.wpOp hi hS ⟨fun _ _ => hS, H⟩
  ·have hjl : j ∉ late := qJK hc hwt hr hj
   obtain ⟨hjun, oj, hoj, hall⟩ := mem_ready.1 hj; have hnot : ∀ e ∈ oj.after, Region.binds md e = true -> e.on ≠ i := by
    intro e he hb heq; have h1 := hall e he hb; have h0 := (mem_ready.1 hr).1; rw [heq] at h1; rcases Nat.lt_or_ge i listed.size with h' | h'
    ·simp [h'] at h0 h1
     rw [h0] at h1; cases h1
    ·simp [Array.getElem?_eq_none h'] at h1
   have h2 := wpOp_putIf hoj (hfree j oj hoj hji hjun hnot) (fun cs b => hsel i oi cs b hi) (fun cs b => hsel j oj cs b hoj) hQ hy (H.2 j (ready_mono hj hji)); refine wpOp_mono (fun a' w' h3 => ⟨h3.2.1, ih _ a' w' (hc.set hj) (fun k ok hk hki hun hno => ?_) (ready_mono hr (Ne.symm hji)) h3.1 (h3.2.1 hjl hS) ?_⟩) h2
   ·refine hfree k ok hk hki ?_ hno
    by_cases hjk : j = k
    ·subst hjk; exact hjun
    ·rw [getD_set_ne true hjk] at hun; exact hun
   ·rw [Array.setIfInBounds_comm _ _ hji]
    exact h3.2.2
theorem qGO {i : Nat} {oi : Oper} {v : Value} (hi : ops[i]? = some oi) (hsel : ∀ (j : Nat) (o : Oper) cs b, ops[j]? = some o -> o.op ≠ .select cs b)
 (hQ : ∀ c a w, Q (.panic c) (a.put oi.dst v) w -> Q (.panic c) a w) (fuel : Nat) :
 ∀ (listed : Array Bool) (a : Act) (w : World), 
  (∀ j oj, ops[j]? = some oj -> j ≠ i -> listed.getD j true = false -> (∀ e ∈ oj.after, Region.binds md e = true -> e.on ≠ i) -> oi.apart ops oj = true) ->
  i ∈ Region.ready md ops listed -> YieldsIf P ops (fun _ => True) oi v a ->
  qAB P md ops Q S late fuel (listed.setIfInBounds i true) (a.put oi.dst v) w -> qAB P md ops Q S late (fuel + 1) listed a w := by
 induction fuel with
 | zero =>
  intro listed a w _ hr hy H; refine ⟨fun h => absurd hr (by rw [h]; simp), fun j hj => ?_⟩; by_cases hji : j = i
  ·subst hji
   exact hy.wpOp hi trivial ⟨fun _ h => h, H⟩
  ·exact absurd (ready_mono hj hji) (by rw [H.1]; simp)
 | succ fuel ih =>
  intro listed a w hfree hr hy H; refine ⟨fun h => absurd hr (by rw [h]; simp), fun j hj => ?_⟩; by_cases hji : j = i
  ·subst hji
   exact hy.wpOp hi trivial ⟨fun _ h => h, H⟩
  ·obtain ⟨hjun, oj, hoj, hall⟩ := mem_ready.1 hj
   have hnot : ∀ e ∈ oj.after, Region.binds md e = true -> e.on ≠ i := by
    intro e he hb heq; have h1 := hall e he hb; have h0 := (mem_ready.1 hr).1; rw [heq] at h1; rcases Nat.lt_or_ge i listed.size with h' | h'
    ·simp [h'] at h0 h1
     rw [h0] at h1; cases h1
    ·simp [Array.getElem?_eq_none h'] at h1
   have h2 := wpOp_putIf hoj (hfree j oj hoj hji hjun hnot) (fun cs b => hsel i oi cs b hi) (fun cs b => hsel j oj cs b hoj) hQ hy (H.2 j (ready_mono hj hji)); refine wpOp_mono (fun a' w' h3 => ⟨h3.2.1, ih _ a' w' (fun k ok hk hki hun hno => ?_) (ready_mono hr (Ne.symm hji)) h3.1 ?_⟩) h2
   ·refine hfree k ok hk hki ?_ hno
    by_cases hjk : j = k
    ·subst hjk; exact hjun
    ·rw [getD_set_ne true hjk] at hun; exact hun
   ·rw [Array.setIfInBounds_comm _ _ hji]
    exact h3.2.2
theorem qD9 (i d : Nat) {oi : Oper} {v : Value} {fuel : Nat} {listed : Array Bool} {tmps : Array Value} {ds : List Deferred} {w : World} (hi : ops[i]? = some oi) (hd : oi.dst = some d)
 (hs : Region.noSelect ops = true) (hf : Region.free md ops listed i = true) (hr : (Region.ready md ops listed).contains i = true) (hwt : qDN md ops late i = true) (hc : qCZ md ops listed = true)
 (hQ : ∀ c a w, Q (.panic c) (a.put oi.dst v) w -> Q (.panic c) a w) (hw : Region.wanted oi (yielded ops tmps) = true) (hy : ∀ w, S w -> (execOp (Act.eval ⟨tmps, ds⟩) oi).run P w = .ok (.value v) w) (hS : S w)
 (h : qAB P md ops Q S late fuel (listed.setIfInBounds i true) ⟨tmps.setIfInBounds d v, ds⟩ w) : qAB P md ops Q S late (fuel + 1) listed ⟨tmps, ds⟩ w :=
 qDL hi (Region.noSelect_spec hs) hQ hwt fuel listed _ w (qGy hc) (Region.free_spec hi hf) (by simpa using hr) (Or.inl ⟨hw, hy⟩) hS (by rw [hd]; exact h)
theorem qLL (i d : Nat) {oi : Oper} {v : Value} {fuel : Nat} {listed : Array Bool} {tmps : Array Value} {ds : List Deferred} {w : World} (hi : ops[i]? = some oi) (hd : oi.dst = some d)
 (hs : Region.noSelect ops = true) (hf : Region.free md ops listed i = true) (hr : (Region.ready md ops listed).contains i = true)
 (hQ : ∀ c a w, Q (.panic c) (a.put oi.dst v) w -> Q (.panic c) a w) (hw : Region.wanted oi (yielded ops tmps) = true) (hy : ∀ w, (execOp (Act.eval ⟨tmps, ds⟩) oi).run P w = .ok (.value v) w)
 (h : qAB P md ops Q S late fuel (listed.setIfInBounds i true) ⟨tmps.setIfInBounds d v, ds⟩ w) : qAB P md ops Q S late (fuel + 1) listed ⟨tmps, ds⟩ w :=
 qGO hi (Region.noSelect_spec hs) hQ fuel listed _ w (Region.free_spec hi hf) (by simpa using hr) (Or.inl ⟨hw, fun w _ => hy w⟩) (by rw [hd]; exact h)
theorem qMp (i d : Nat) {oi : Oper} {fuel : Nat} {listed : Array Bool} {tmps : Array Value} {ds : List Deferred} {w : World} (hi : ops[i]? = some oi) (hd : oi.dst = some d)
 (hs : Region.noSelect ops = true) (hf : Region.free md ops listed i = true) (hr : (Region.ready md ops listed).contains i = true) (hwt : qDN md ops late i = true) (hc : qCZ md ops listed = true)
 (hQ : ∀ c a w, Q (.panic c) (a.put oi.dst undef) w -> Q (.panic c) a w) (hw : Region.wanted oi (yielded ops tmps) = false) (hS : S w)
 (h : qAB P md ops Q S late fuel (listed.setIfInBounds i true) ⟨tmps.setIfInBounds d undef, ds⟩ w) : qAB P md ops Q S late (fuel + 1) listed ⟨tmps, ds⟩ w :=
 qDL hi (Region.noSelect_spec hs) hQ hwt fuel listed _ w (qGy hc) (Region.free_spec hi hf) (by simpa using hr) (Or.inr ⟨hw, rfl⟩) hS (by rw [hd]; exact h)
theorem qMw {listed : Array Bool} {a : Act} {w : World} (hr : Region.ready md ops listed = []) (h : Q .normal a w) : ∀ fuel, qAB P md ops Q S late fuel listed a w
 | 0 => ⟨hr, h⟩
 | _ + 1 => ⟨fun _ => h, by rw [hr]; simp⟩
theorem qMo (i : Nat) {o : Oper} {fuel : Nat} {listed : Array Bool} {a : Act} {w : World} (hr : Region.ready md ops listed = [i]) (ho : ops[i]? = some o)
 (h : ∀ K' : Act -> World -> Prop, Shut (∀ a w, S w -> (S w -> qAB P md ops Q S late fuel (listed.setIfInBounds i true) a w) -> K' a w) -> if Region.wanted o (yielded ops a.tmps) = true then Oper.wp P o a w K' Q else K' (a.put o.dst undef) w) :
 qAB P md ops Q S late (fuel + 1) listed a w := by
 refine ⟨fun h0 => absurd (hr.symm.trans h0) (by simp), fun j hj => ?_⟩; rw [hr, List.mem_singleton] at hj; subst hj; exact wpOp_step ho (fun K' hK => h K' (fun a w hS hW => hK a w ⟨fun _ _ => hS, hW hS⟩))
theorem qMs (i : Nat) {o : Oper} {fuel : Nat} {listed : Array Bool} {a : Act} {w : World} (hr : Region.ready md ops listed = [i]) (hl : i ∈ late) (ho : ops[i]? = some o)
 (h : ∀ K' : Act -> World -> Prop, Shut (∀ a w, qAB P md ops Q S late fuel (listed.setIfInBounds i true) a w -> K' a w) -> if Region.wanted o (yielded ops a.tmps) = true then Oper.wp P o a w K' Q else K' (a.put o.dst undef) w) :
 qAB P md ops Q S late (fuel + 1) listed a w := by
 refine ⟨fun h0 => absurd (hr.symm.trans h0) (by simp), fun j hj => ?_⟩; rw [hr, List.mem_singleton] at hj; subst hj; exact wpOp_step ho (fun K' hK => h K' (fun a w hW => hK a w ⟨fun h => absurd hl h, hW⟩))
def qKz (f : Nat -> Prop) : List Nat -> Prop
 | [] => True
 | i :: r => f i /\ qKz f r
theorem qKz.mem {f : Nat -> Prop} : ∀ {l : List Nat}, qKz f l -> ∀ i ∈ l, f i
 | [], _, _, h => by cases h
 | j :: r, h, i, hi => by
  rcases List.mem_cons.1 hi with rfl | hi
  ·exact h.1
  ·exact qKz.mem h.2 i hi
theorem qIr (rs : List Nat) {fuel : Nat} {listed : Array Bool} {a : Act} {w : World} (hr : Region.ready md ops listed = rs) (hne : rs ≠ [])
 (h : qKz (fun i => wpOp P ops Q i (fun a' w' => S w' /\ qAB P md ops Q S late fuel (listed.setIfInBounds i true) a' w') a w) rs) :
 qAB P md ops Q S late (fuel + 1) listed a w := by
 refine ⟨fun h0 => absurd (hr.symm.trans h0) hne, fun j hj => ?_⟩; rw [hr] at hj; exact wpOp_mono (fun a' w' h' => ⟨fun _ _ => h'.1, h'.2⟩) (h.mem j hj)
theorem qA7 (i : Nat) {o : Oper} {fuel : Nat} {listed : Array Bool} {a : Act} {w : World} (ho : ops[i]? = some o)
 (h : ∀ K' : Act -> World -> Prop, Shut (∀ a w, S w -> (S w -> qAB P md ops Q S late fuel (listed.setIfInBounds i true) a w) -> K' a w) -> if Region.wanted o (yielded ops a.tmps) = true then Oper.wp P o a w K' Q else K' (a.put o.dst undef) w) :
 wpOp P ops Q i (fun a' w' => S w' /\ qAB P md ops Q S late fuel (listed.setIfInBounds i true) a' w') a w :=
 wpOp_step ho (fun K' hK => h K' (fun a w hS hW => hK a w ⟨hS, hW hS⟩))
theorem qAx {id : Nat} {a : Act} {w : World} (late : List Nat) (S : World -> Prop) (hm : P.follows .mixedOrders = true) (hS : S w.drew)
 (h : S w.drew -> qAB P .any ops Q S late ops.size (Array.replicate ops.size false) a w.drew) : (Code.region id ops true).wp P Q a w :=
 wp_region_any hm (qEM _ _ _ _ (h hS))
end
/-- short names -/
theorem sX1 {α : Type _} (l : List α) (i : Nat) (a : α) : l.toArray.setIfInBounds i a = (l.set i a).toArray := List.setIfInBounds_toArray ..
theorem sX2 {α : Type _} {x : α} {xs : List α} {a : α} : (x :: xs).set 0 a = a :: xs := List.set_cons_zero ..
theorem sX3 {α : Type _} {x : α} {xs : List α} {i : Nat} {a : α} : (x :: xs).set (i + 1) a = x :: xs.set i a := List.set_cons_succ ..
section
variable {P : Program} {md : Region.Mode} {ops : Array Oper} {Q : Exit -> Act -> World -> Prop} {S : World -> Prop} {late : List Nat}
theorem pU (i d : Nat) {oi : Oper} {v : Value} {T : Array Value} {fuel : Nat} {listed : Array Bool} {tmps : Array Value} {ds : List Deferred} {w : World}
    (h : qAB P md ops Q S late fuel (listed.setIfInBounds i true) ⟨T, ds⟩ w)
    (hi : ops[i]? = some oi := by rfl) (hd : oi.dst = some d := by rfl)
    (hy : ∀ w, (execOp (Act.eval ⟨tmps, ds⟩) oi).run P w = .ok (.value v) w := by (intro w; go_simp; first | done | with_reducible rfl))
    (hT : tmps.setIfInBounds d v = T := by (simp only [List.setIfInBounds_toArray, List.set_cons_zero, List.set_cons_succ]; try rfl))
    (hs : Region.noSelect ops = true := by kernel_rfl) (hf : Region.free md ops listed i = true := by kernel_rfl) (hr : (Region.ready md ops listed).contains i = true := by kernel_rfl)
    (hQ : ∀ c a w, Q (.panic c) (a.put oi.dst v) w -> Q (.panic c) a w := by exact fun _ _ _ h => h) (hw : Region.wanted oi (yielded ops tmps) = true := by rfl) : qAB P md ops Q S late (fuel + 1) listed ⟨tmps, ds⟩ w :=
  qLL i d hi hd hs hf hr hQ hw hy (hT ▸ h)
theorem tU (i d : Nat) {oi : Oper} {v : Value} {T : Array Value} {fuel : Nat} {listed : Array Bool} {tmps : Array Value} {ds : List Deferred} {w : World} {A : Addr} {x : Value} (c : ∀ w, S w -> w.cell? A = some x)
    (h : qAB P md ops Q S late fuel (listed.setIfInBounds i true) ⟨T, ds⟩ w)
    (hi : ops[i]? = some oi := by rfl) (hd : oi.dst = some d := by rfl)
    (y : ∀ w, w.cell? A = some x -> (execOp (Act.eval ⟨tmps, ds⟩) oi).run P w = .ok (.value v) w := by (intro w x0; go_simp; first | done | with_reducible rfl))
    (hT : tmps.setIfInBounds d v = T := by (simp only [List.setIfInBounds_toArray, List.set_cons_zero, List.set_cons_succ]; try rfl))
    (hs : Region.noSelect ops = true := by kernel_rfl) (hf : Region.free md ops listed i = true := by kernel_rfl) (hr : (Region.ready md ops listed).contains i = true := by kernel_rfl) (hwt : qDN md ops late i = true := by kernel_rfl) (hc : qCZ md ops listed = true := by kernel_rfl)
    (hQ : ∀ c a w, Q (.panic c) (a.put oi.dst v) w -> Q (.panic c) a w := by exact fun _ _ _ h => h) (hw : Region.wanted oi (yielded ops tmps) = true := by rfl) (hS : S w := by assumption) : qAB P md ops Q S late (fuel + 1) listed ⟨tmps, ds⟩ w :=
  qD9 i d hi hd hs hf hr hwt hc hQ hw (fun w s => y w (c w s)) hS (hT ▸ h)
theorem tV (i d : Nat) {oi : Oper} {v : Value} {T : Array Value} {fuel : Nat} {listed : Array Bool} {tmps : Array Value} {ds : List Deferred} {w : World} {A B : Addr} {x z : Value} (c : ∀ w, S w -> w.cell? A = some x) (c' : ∀ w, S w -> w.cell? B = some z)
    (h : qAB P md ops Q S late fuel (listed.setIfInBounds i true) ⟨T, ds⟩ w)
    (hi : ops[i]? = some oi := by rfl) (hd : oi.dst = some d := by rfl)
    (y : ∀ w, w.cell? A = some x -> w.cell? B = some z -> (execOp (Act.eval ⟨tmps, ds⟩) oi).run P w = .ok (.value v) w := by (intro w x0 x1; go_simp; first | done | with_reducible rfl))
    (hT : tmps.setIfInBounds d v = T := by (simp only [List.setIfInBounds_toArray, List.set_cons_zero, List.set_cons_succ]; try rfl))
    (hs : Region.noSelect ops = true := by kernel_rfl) (hf : Region.free md ops listed i = true := by kernel_rfl) (hr : (Region.ready md ops listed).contains i = true := by kernel_rfl) (hwt : qDN md ops late i = true := by kernel_rfl) (hc : qCZ md ops listed = true := by kernel_rfl)
    (hQ : ∀ c a w, Q (.panic c) (a.put oi.dst v) w -> Q (.panic c) a w := by exact fun _ _ _ h => h) (hw : Region.wanted oi (yielded ops tmps) = true := by rfl) (hS : S w := by assumption) : qAB P md ops Q S late (fuel + 1) listed ⟨tmps, ds⟩ w :=
  qD9 i d hi hd hs hf hr hwt hc hQ hw (fun w s => y w (c w s) (c' w s)) hS (hT ▸ h)
theorem sU (i d : Nat) {oi : Oper} {T : Array Value} {fuel : Nat} {listed : Array Bool} {tmps : Array Value} {ds : List Deferred} {w : World}
    (h : qAB P md ops Q S late fuel (listed.setIfInBounds i true) ⟨T, ds⟩ w)
    (hi : ops[i]? = some oi := by rfl) (hd : oi.dst = some d := by rfl)
    (hT : tmps.setIfInBounds d undef = T := by (simp only [List.setIfInBounds_toArray, List.set_cons_zero, List.set_cons_succ]; try rfl))
    (hs : Region.noSelect ops = true := by kernel_rfl) (hf : Region.free md ops listed i = true := by kernel_rfl) (hr : (Region.ready md ops listed).contains i = true := by kernel_rfl) (hwt : qDN md ops late i = true := by kernel_rfl) (hc : qCZ md ops listed = true := by kernel_rfl)
    (hQ : ∀ c a w, Q (.panic c) (a.put oi.dst undef) w -> Q (.panic c) a w := by exact fun _ _ _ h => h) (hw : Region.wanted oi (yielded ops tmps) = false := by rfl) (hS : S w := by assumption) : qAB P md ops Q S late (fuel + 1) listed ⟨tmps, ds⟩ w :=
  qMp i d hi hd hs hf hr hwt hc hQ hw hS (hT ▸ h)
theorem eU (i : Nat) {o : Oper} {fuel : Nat} {listed : Array Bool} {a : Act} {w : World}
    (h : ∀ K' : Act -> World -> Prop, Shut (∀ a w, S w -> (S w -> qAB P md ops Q S late fuel (listed.setIfInBounds i true) a w) -> K' a w) -> if Region.wanted o (yielded ops a.tmps) = true then Oper.wp P o a w K' Q else K' (a.put o.dst undef) w)
    (ho : ops[i]? = some o := by rfl) (hr : Region.ready md ops listed = [i] := by kernel_rfl) : qAB P md ops Q S late (fuel + 1) listed a w := qMo i hr ho h
theorem lU (i : Nat) {o : Oper} {fuel : Nat} {listed : Array Bool} {a : Act} {w : World}
    (h : ∀ K' : Act -> World -> Prop, Shut (∀ a w, qAB P md ops Q S late fuel (listed.setIfInBounds i true) a w -> K' a w) -> if Region.wanted o (yielded ops a.tmps) = true then Oper.wp P o a w K' Q else K' (a.put o.dst undef) w)
    (ho : ops[i]? = some o := by rfl) (hr : Region.ready md ops listed = [i] := by kernel_rfl) (hl : i ∈ late := by decide) : qAB P md ops Q S late (fuel + 1) listed a w := qMs i hr hl ho h
theorem dU {listed : Array Bool} {a : Act} {w : World} {fuel : Nat} (h : Q .normal a w) (hr : Region.ready md ops listed = [] := by kernel_rfl) : qAB P md ops Q S late fuel listed a w := qMw hr h _
end
open Go.RowKit
theorem qFV (v1 v2 : Value) (l1 l2 : List Int) (w : World) (h1 : qAo w v1 l1) (h2 : qAo w v2 l2) : Calls Try.prog 38 #[v1, v2] w fun e w' => e = .returned (.bool (decide (l1 = l2))) /\ Below w.heap.size w w' := by
 have H1 := hZ h1; have H2 := hZ h2; obtain ⟨a1, c1, rfl, b1, b2⟩ := h1.form; obtain ⟨a2, c2, rfl, b3, b4⟩ := h2.form; clear h1 h2; by_cases hl : l1.length = l2.length
 ·have q1 : ((l1.length : Int) == (l2.length : Int)) = true := by simp [hl]
  have q2 : ((l1.length : Int) != (l2.length : Int)) = false := by simp [hl]
  have q3 : (l1.length == l2.length) = true := by simp [hl]
  have q4 : (l1.length != l2.length) = false := by simp [hl]
  have HL := hZ hl; clear hl
  go_enter Try.func38, Try.ntmps38
  go_wp2_with fail
  go_loopw [5] (fun i wr => ∃ j : Nat, j <= l1.length /\ i = .int .i64 j /\ Hid (l1.take j = l2.take j) /\ Hid (Below w.heap.size w wr)) (fun i _ => l1.length - (intOf i).toNat)
  case atStart => exact ⟨0, by omega, rfl, hZ rfl, hZ (Below.refl _ _)⟩
  case round =>
   obtain ⟨j, hj, rfl, HT, HB⟩ := hrel; by_cases hlt : j < l1.length
   ·have hlt2 : j < l2.length := by have := HL.o; omega
    obtain ⟨d1, e1, hv1, hb1, n1⟩ := qAo.at_ (H1.o.below HB.o) j hlt; obtain ⟨d2, e2, hv2, hb2, n2⟩ := qAo.at_ (H2.o.below HB.o) j hlt2; injection hv1 with f1 f2 f3; injection hv2 with g1 g2 g3; subst f1 g1; clear f2 f3 g2 g3; have HT1 : Hid (l1.take (j + 1) = l1.take j ++ [l1[j]]) := hZ (List.take_succ_eq_append_getElem hlt); have HT2 : Hid (l2.take (j + 1) = l2.take j ++ [l2[j]]) := hZ (List.take_succ_eq_append_getElem hlt2); have HNo : Hid (l1[j] ≠ l2[j] -> ¬ l1 = l2) := hZ (fun h e => h (by subst e; rfl)); generalize l1[j] = x1 at *; generalize l2[j] = x2 at *; have i1 : (0 : Int) <= (j : Int) := by omega
    have i2 : (j : Int) < (l1.length : Int) := by omega
    have i3 : (j : Int) < (l2.length : Int) := by omega
    by_cases hx : x1 = x2
    ·have r1 : (x1 == x2) = true := by simp [hx]
     have r2 : (x1 != x2) = false := by simp [hx]
     have HX := hZ hx; clear hx
     go_wp2_with fail
     go_region
     go_wp2_with fail
     go_roundw
     case rel => exact ⟨j + 1, by omega, by go_num, hZ (by rw [HT1.o, HT2.o, HT.o, HX.o]), hZ HB.o.drew⟩
     case measure => simp [intOf]; omega
    ·have r1 : (x1 == x2) = false := by simp [hx]
     have r2 : (x1 != x2) = true := by simp [hx]
     have HX := hZ (decide_eq_false (HNo.o hx)); clear hx
     go_wp2_with fail
     go_region
     go_wp2_with fail
     go_ret; exact ⟨by rw [HX.o]; rfl, HB.o.drew⟩
   ·have h9 := HT.o
    rw [List.take_of_length_le (show l1.length <= j by omega), List.take_of_length_le (show l2.length <= j by have := HL.o; omega)] at h9; have HX := hZ (decide_eq_true h9); clear h9
    go_wp2_with fail
    go_ret; exact ⟨by rw [HX.o]; rfl, HB.o⟩
 ·have q1 : ((l1.length : Int) == (l2.length : Int)) = false := by simp; omega
  have q2 : ((l1.length : Int) != (l2.length : Int)) = true := by simp; omega
  have q3 : (l1.length == l2.length) = false := by simpa using hl
  have q4 : (l1.length != l2.length) = true := by simpa using hl
  have HX : Hid (decide (l1 = l2) = false) := hZ (decide_eq_false (fun e => hl (by rw [e]))); clear hl
  go_enter Try.func38, Try.ntmps38
  go_wp2_with fail
  go_ret; exact ⟨by rw [HX.o]; rfl, Below.refl _ _⟩
theorem qDY (v1 v2 : Value) (A B : List (List Int)) (w0 : World) (h1 : qAA w0 v1 A) (h2 : qAA w0 v2 B) : Calls Try.prog 16 #[v1, v2] w0 fun e w' => e = .returned (.bool (decide (A = B))) /\ Below w0.heap.size w0 w' := by
 have H1 := hZ h1; have H2 := hZ h2; have HB := hZ (Below.refl w0.heap.size w0); obtain ⟨a1, c1, rfl, b1, b2⟩ := h1.form; obtain ⟨a2, c2, rfl, b3, b4⟩ := h2.form; clear h1 h2; by_cases hl : A.length = B.length; rotate_left
 ·have q1 : ((A.length : Int) == (B.length : Int)) = false := by rw [beq_eq_false_iff_ne]; omega
  have q2 : ((A.length : Int) != (B.length : Int)) = true := by simp; omega
  have q3 : (A.length == B.length) = false := by rw [beq_eq_false_iff_ne]; omega
  have q4 : (A.length != B.length) = true := by simp; omega
  have HN := hZ (decide_eq_false (show ¬ A = B from fun e => hl (by rw [e])))
  go_enter Try.func16, Try.ntmps16
  go_wp2_with fail
  go_ret; exact ⟨by rw [HN.o]; rfl, HB.o⟩
 have q1 : ((A.length : Int) == (B.length : Int)) = true := by simp [hl]
 have q2 : ((A.length : Int) != (B.length : Int)) = false := by simp [hl]
 have q3 : (A.length == B.length) = true := by simp [hl]
 have q4 : (A.length != B.length) = false := by simp [hl]
 have HL := hZ hl; clear hl
 go_enter Try.func16, Try.ntmps16
 go_wp2_with fail
 go_loopw [5] (fun i wr => ∃ j : Nat, j <= A.length /\ i = .int .i64 j /\ Hid (A.take j = B.take j) /\ Hid (Below w0.heap.size w0 wr)) (fun i _ => A.length - (intOf i).toNat)
 case atStart => exact ⟨0, by omega, rfl, hZ rfl, HB⟩
 case round =>
  clear HB; obtain ⟨j, hj, rfl, HT, HB⟩ := hrel; obtain ⟨w1, rfl⟩ := eY wr; by_cases hlt : j < A.length; rotate_left
  ·have HA : Hid (A = B) := hZ (by have h1 := HT.o; have h2 := HL.o; rwa [List.take_of_length_le (by omega), List.take_of_length_le (by omega)] at h1)
   go_wp2_with fail
   go_ret; exact ⟨by rw [decide_eq_true HA.o]; rfl, HB.o⟩
  have hlt2 : j < B.length := by have := HL.o; omega
  obtain ⟨d1, e1, x1, y1, hv1, hb1, n1, K1, g1, g2⟩ := H1.o.at_ j hlt; obtain ⟨d2, e2, x2, y2, hv2, hb2, n2, K2, g3, g4⟩ := H2.o.at_ j hlt2; injection hv1 with f1 f2 f3; subst f1; clear f2 f3; injection hv2 with f1 f2 f3; subst f1; clear f2 f3; replace n1 := (HB.o.cell (p := ⟨d1, j, none⟩) hb1).trans n1; replace n2 := (HB.o.cell (p := ⟨d2, j, none⟩) hb2).trans n2; have i1 : (0 : Int) <= (j : Int) := by omega
  have i2 : (j : Int) < (A.length : Int) := by omega
  have i3 : (j : Int) < (B.length : Int) := by omega
  have HT1 : Hid (A.take (j + 1) = A.take j ++ [A[j]]) := hZ (List.take_succ_eq_append_getElem hlt); have HT2 : Hid (B.take (j + 1) = B.take j ++ [B[j]]) := hZ (List.take_succ_eq_append_getElem hlt2); have HNo : Hid (A[j] ≠ B[j] -> ¬ A = B) := hZ (fun h e => h (by subst e; rfl)); have HK1 := hZ (K1.below HB.o); have HK2 := hZ (K2.below HB.o); have HN1 := hZ n1; have HN2 := hZ n2; have Hb1 := hZ (Nat.lt_of_lt_of_le hb1 HB.o.size); have Hb2 := hZ (Nat.lt_of_lt_of_le hb2 HB.o.size); clear K1 K2 n1 n2 hb1 hb2; generalize A[j] = r1 at *; generalize B[j] = r2 at *
  go_wp2_with fail
  have HD := hZ (Below.refl w1.heap.size w1); obtain ⟨w2, hwd⟩ := eX w1.drew; have hB := dB hwd; replace HB := bT HB hB; replace HD := bT HD hB; clear hB; have HBr : Hid (qAc (fun b => False) w2 w2) := hZ (qAc.refl _ _); refine qAx [] (fun w' => qAc (fun b => False) w2 w') (by kernel_rfl) (by rw [hwd]; exact qAc.refl _ _) (fun hHeld => ?_); rw [hwd] at hHeld ⊢; clear hwd; have f1 : w2.cell? ⟨d1, j, none⟩ = some (.slice x1 r1.length y1) := (HD.o.cell (p := ⟨d1, j, none⟩) Hb1.o).trans HN1.o; have f2 : w2.cell? ⟨d2, j, none⟩ = some (.slice x2 r2.length y2) := (HD.o.cell (p := ⟨d2, j, none⟩) Hb2.o).trans HN2.o; have l1 : d1 < w2.heap.size := Nat.lt_of_lt_of_le Hb1.o HD.o.size; have l2 : d2 < w2.heap.size := Nat.lt_of_lt_of_le Hb2.o HD.o.size; refine pU 0 18 ?_; refine pU 1 19 ?_; refine pU 2 20 ?_; refine tU 3 21 (cF f1 l1) ?_; refine pU 4 22 ?_; refine pU 5 23 ?_; refine pU 6 24 ?_; refine tU 7 25 (cF f2 l2) ?_; clear f1 f2 l1 l2; refine eU 8 fun K hK => ?_; go_simp; refine (qFV _ _ r1 r2 w2 (HK1.o.below HD.o) (HK2.o.below HD.o)).mono ?_; rintro e w3 ⟨rfl, hB⟩; replace HBr := oT HBr hB; replace HB := bT HB hB; replace HD := bT HD hB; clear hB; refine hK.out _ _ HBr.o (fun hHeld => ?_); clear hK K
  try simp only [Act.put, sX1, sX2, sX3]
  refine pU 9 6 ?_; refine dU ?_; clear hHeld; by_cases hx : r1 = r2
  ·skip
   have HX := hZ hx; rw [decide_eq_true hx]; clear hx
   go_wp2_with fail
   go_roundw
   case rel => exact ⟨j + 1, by omega, by go_num, hZ (by rw [HT1.o, HT2.o, HT.o, HX.o]), HB⟩
   case measure => simp [intOf]; omega
  ·skip
   have HX := hZ (decide_eq_false (HNo.o hx)); rw [decide_eq_false hx]; clear hx
   go_wp2_with fail
   go_ret; exact ⟨by rw [HX.o]; rfl, HB.o⟩
open Go.RowKit
theorem qKB (a : Option Addr) (M cap : Nat) (L : List Nat) (w : World) (h : qAd .u32 w (.slice a M cap) L) (hlow : Low W2 L) (hlen : L.length <= 4611686018427387904) :
 Calls Try.prog 58 #[.slice a M cap] w fun e w' => ∃ n, e = .returned (.slice a n cap) /\ qAd .u32 w (.slice a n cap) (qAe W2 (val W2 L)) /\ w = w' := by
 have Htake := hZ (fun n hn => h.take n hn); obtain ⟨a', cap', hv', h1, h2, hc⟩ := h; injection hv' with e1 e2 e3; subst e1 e2 e3; have Hc := hZ hc; have Hlow := hZ hlow; clear hc hlow; obtain ⟨N, hN⟩ := eX L.length; have HN := hZ hN; rw [hN] at h1 hlen ⊢; clear hN
 go_enter Try.func58, Try.ntmps58
 go_wp2
 go_loop [3] (fun i => ∃ n : Nat, n <= N /\ i = .int .i64 n /\ Hid (∀ j (h : j < L.length), n <= j -> L[j] = 0)) (fun i => (intOf i).toNat)
 case atStart => exact ⟨N, Nat.le_refl _, rfl, hZ (fun j hj hn => by rw [HN.o] at hj; omega)⟩
 case round =>
  obtain ⟨n, hn, rfl, hz⟩ := hrel; have hdone : ∀ n : Nat, n <= N -> (∀ j (h : j < L.length), n <= j -> L[j] = 0) -> (∀ h : n - 1 < L.length, n = 0 \/ L[n - 1] ≠ 0) -> qAd .u32 w (.slice a n cap) (qAe W2 (val W2 L)) := by
   intro n hn hz hl; obtain ⟨a', cap', hv, _, _, hr⟩ := Htake.o n (by rw [HN.o]; exact hn); rw [HN.o] at hv; injection hv with e1 e2 e3; subst e1 e3; rw [qD8 W2 qAm L Hlow.o n (by rw [HN.o]; exact hn) hz hl] at hr; exact hr
  have Hd := hZ hdone; clear hdone; by_cases h0 : n = 0
  ·subst h0
   go_wp2
   go_ret; exact ⟨0, rfl, Hd.o 0 hn hz.o (fun _ => .inl rfl), rfl⟩
  ·have hlt : n - 1 < L.length := by rw [HN.o]; omega
   obtain ⟨b, off, rfl, hb, hcc⟩ := Hc.o (by rw [HN.o]; omega); have hcell := hcc (n - 1) hlt; clear hcc; by_cases hzz : L[n - 1] = 0
   ·have hz2 : Hid (∀ j (h : j < L.length), n - 1 <= j -> L[j] = 0) := hZ (fun j hj hnj => by
     by_cases e : j = n - 1
     ·subst e; exact hzz
     ·exact hz.o j hj (by omega))
    rw [hzz] at hcell; clear hzz
    go_wp2
    go_round
    case rel => exact ⟨n - 1, by omega, by go_num, hz2⟩
    case measure => simp [intOf]; omega
   ·have hne : (((L[n - 1] : Nat) : Int) == 0) = false := by simp; exact hzz
    go_wp2
    go_ret; exact ⟨n, rfl, Hd.o n hn hz.o (fun _ => .inr hzz), rfl⟩
theorem qJc (va : Value) (A : List Nat) (d : Nat) (w : World) (ha : qAd .u32 w va A) (hA : Low W2 A) (hd0 : 0 < d) (hd : d < 4294967296) (hlen : A.length <= 1048576) :
 Calls Try.prog 83 #[va, .int .u32 (d : Int)] w fun e w' => ∃ n, e = .returned (.tuple #[.slice (some ⟨w.heap.size, 0, none⟩) n A.length, .int .u32 ((val W2 A % d : Nat) : Int)]) /\ qAd .u32 w' (.slice (some ⟨w.heap.size, 0, none⟩) n A.length) (qAe W2 (val W2 A / d)) /\ Below w.heap.size w w' := by
 obtain ⟨i0, hi, hz0, hz1, hz2⟩ := info_parts qDS; have Hi := hZ hi; have Hz0 := hZ hz0; have Hz1 := hZ hz1; have Hz2 := hZ hz2; clear hi hz0 hz1 hz2; obtain ⟨ya, ycap, hvy, y1, y2, hyc⟩ := ha; subst hvy; have Hyc := hZ hyc; have HlA := hZ hA; clear hyc hA; obtain ⟨N, hN⟩ := eX A.length; have HN := hZ hN; rw [hN] at hlen y1 ⊢; clear hN
 go_enter Try.func83, Try.ntmps83
 go_wp2_with (at_make; refine qAy _ rfl _ _ 56 rfl 88 i0 .u32 Try.underlying56 Hi.o Hz0.o Hz1.o _ _ _ _ N rfl rfl rfl rfl (by rw [Hz2.o]; omega) (by omega) ?_)
 intro w1 hblk hB1 hz1; obtain ⟨g, hg⟩ := eX w.heap.size; have Hg := hZ hg; rw [hg] at hblk hB1 hz1 ⊢; have Hblk1 := hZ hblk; have HB1 := hZ hB1; clear hg hblk hB1
 go_wp2_with fail
 have HI0 := hZ (qJs.start A d N HN.o hd0)
 go_loopw [7, 8] (fun rv i wr => ∃ (k r : Nat) (L : List Nat), k <= N /\ r < d /\ rv = .int .u64 (r : Int) /\ i = .int .i64 ((k : Int) - 1) /\ Hid (qJs A d N k r L) /\ Hid (Blk wr g 88 .u32 L) /\ Hid (Below g w wr)) (fun _ i _ => (intOf i + 1).toNat)
 case atStart => exact ⟨N, 0, _, by omega, hd0, rfl, rfl, HI0, Hblk1, HB1⟩
 case round =>
  obtain ⟨k, r, L, hk, hr, rfl, rfl, hI, hbl, hB⟩ := hrel; have hgw := hbl.o.lt; by_cases h0 : k = 0
  ·subst h0
   have hdn := hI.o.done; have hlen2 := hI.o.len; have Htr := hZ (qKB (some ⟨g, 0, none⟩) N N L wr (by
    have := qAd.of_blk hbl.o (cap := N) (by omega) (by omega); rw [hlen2] at this; exact this) hI.o.low (by omega))
   rw [hdn.1] at Htr; have Hr := hZ hdn.2; clear hdn hlen2
   go_wp2_with (go_at_call 58; refine Htr.o.mono ?_; rintro e w6 ⟨n6, rfl, q1, rfl⟩; have Q1 := hZ q1; clear q1)
   go_ret2
   rw [Hg.o]; exact ⟨n6, by rw [Hr.o]; rfl, Q1.o, hB.o⟩
  ·have hy : k - 1 < A.length := by rw [HN.o]; omega
   have hkl : k - 1 < L.length := by rw [hI.o.len]; omega
   obtain ⟨b, off, rfl, hb, hcc⟩ := Hyc.o (by omega); rw [Hg.o] at hb; have cy := (hB.o.cell (p := ⟨b, off + (k - 1), none⟩) hb).trans (hcc (k - 1) hy); have hyl : A[k - 1] < 4294967296 := HlA.o _ (List.getElem_mem hy); have Hnext := hZ (hI.o.next (by omega) hkl hy HlA.o); have hq := hI.o.quo A[k - 1] hyl; have cg := hbl.o.cell (k - 1) hkl; have fg := hbl.o.frozen (k - 1); clear hcc; generalize A[k - 1] = y at *; have hor := qIV r y (by omega) hyl; obtain ⟨t, ht⟩ := eX (r * 4294967296 + y); have ht1 : t <= 18446744073709551615 := by omega
   rw [show r * W2 + y = t from ht] at Hnext hq; rw [ht] at hor; clear ht; have hq2 : ((t : Int) / (d : Int)) = ((t / d : Nat) : Int) := by omega
   have hm2 : ((t : Int) % (d : Int)) = ((t % d : Nat) : Int) := by omega
   have Hmod := hZ (Nat.mod_lt t hd0); generalize t / d = q at *; generalize t % d = m at *; have hq3 : q < 4294967296 := hq; clear hq
   go_wp2_with fail
   go_roundw
   case rel => exact ⟨k - 1, m, _, by omega, Hmod.o, by rw [hm2], by go_num, Hnext, hZ (hbl.o.set (k - 1) _), hZ (hB.o.setCell (p := ⟨g, k - 1, none⟩) (Nat.le_refl _) _)⟩
   case measure => simp [intOf]; omega
theorem qJ5 (va : Value) (m d : Nat) (w : World) (ha : qAT w va m) (hd0 : 0 < d) (hd : d < 4294967296) (hl1 : (qAe W2 m).length <= 1048576) :
 Calls Try.prog 83 #[va, .int .u32 (d : Int)] w fun e w' => ∃ n c, e = .returned (.tuple #[.slice (some ⟨w.heap.size, 0, none⟩) n c, .int .u32 ((m % d : Nat) : Int)]) /\ qAT w' (.slice (some ⟨w.heap.size, 0, none⟩) n c) (m / d) /\ Below w.heap.size w w' := by
 have key := qJc va _ d w ha (qAl W2 qAm m) hd0 hd hl1; rw [qAi W2 qAm] at key; refine key.mono ?_; rintro e w' ⟨n, he, hr, hB⟩; exact ⟨n, _, he, hr, hB⟩
theorem qAd.grown {k : IntKind} {w w' : World} {v : Value} {L : List Nat} {row : Option Nat} (h : qAd k w v L) (hg : w.grownBy w' row) (hne : ∀ b off cap, v = .slice (some ⟨b, off, none⟩) L.length cap -> some b ≠ row) : qAd k w' v L := by
 obtain ⟨a, cap, hv, h1, h2, hc⟩ := h; refine ⟨a, cap, hv, h1, h2, fun h0 => ?_⟩; obtain ⟨b, off, ha, hlt, hcc⟩ := hc h0; exact ⟨b, off, ha, Nat.lt_of_lt_of_le hlt hg.size, fun j hj => (World.cell?_of_block (w := w) (a := ⟨b, off + j, none⟩) (hg.block b hlt (hne b off cap (by rw [hv, ha])))).trans (hcc j hj)⟩
end Go.Proofs.Ytlmbebbdamgfpaa
