/- Maps that the call makes: a set of texts, and numbers by numbers. contains, differ. -/
import Derived.Test.YtfpcgjgkbniofaaGreatDoorGVal2
import Derived.Maps.OwnSet
import Derived.Maps.Views
import Derived.WalkArith
set_option linter.unusedVariables false
set_option linter.unusedSimpArgs false
namespace Go.Proofs.YtfpcgjgkbniofaaGreatDoor
open Go.RowKit Go.Maps Go.WideMaps

theorem run_makeMap_hint {P : Program} (t k e : TypeId) (kd : IntKind) (n : Int) (ht : P.underlying t = some (.map k e)) (w : World) :
    (Instr.makeMap t (some (.int kd n))).run P w = .ok (.map (some w.heap.size)) (w.alloc (.map #[] 0)) := by
  simp [Instr.makeMap, run_underlying ht]; rfl

/-- block b is a map from texts to bools that is true at S -/
def MapB (w : World) (b n : Nat) (S : List Tx) : Prop := ∃ D : DataW Unit, w.ownsMap Tryz.prog 9 (plainElem Tryz.prog 4) b n D ∧ ∀ t : Tx, D.atKey (.string t) (.lit (.bool false)) = .lit (.bool (decide (t ∈ S)))
/-- block b is a map from ints to ints that gives f -/
def MapZ (w : World) (b n : Nat) (f : Int → Int) : Prop := ∃ D : DataW Unit, w.ownsMap Tryz.prog 3 (plainElem Tryz.prog 3) b n D ∧ ∀ i : Int, D.atKey (.int .i64 i) (.lit (.int .i64 0)) = .lit (.int .i64 (f i))

theorem zeroB (w : World) : (zeroValue 4).run Tryz.prog w = .ok (.bool false) w := by kernel_rfl
theorem zeroZ (w : World) : (zeroValue 3).run Tryz.prog w = .ok (.int .i64 0) w := by kernel_rfl

theorem MapB.made (w : World) : MapB (w.alloc (.map #[] 0)) w.heap.size 0 [] := ⟨.map [], World.ownsMap_made _ _ _ _, fun t => by simp [DataW.atKey]⟩
theorem MapZ.made (w : World) : MapZ (w.alloc (.map #[] 0)) w.heap.size 0 (fun _ => 0) := ⟨.map [], World.ownsMap_made _ _ _ _, fun t => by simp [DataW.atKey]⟩
theorem MapB.only {S : Nat → Prop} {w w' : World} {b n : Nat} {l : List Tx} (h : MapB w b n l) (ho : Only S w w') (hS : ¬ S b) : MapB w' b n l := by
  obtain ⟨D, ⟨es, ck, hb, r⟩, hD⟩ := h
  exact ⟨D, ⟨es, ck, (ho.block b (Array.getElem?_eq_some_iff.1 hb).1 hS).trans hb, r⟩, hD⟩
theorem MapZ.only {S : Nat → Prop} {w w' : World} {b n : Nat} {f : Int → Int} (h : MapZ w b n f) (ho : Only S w w') (hS : ¬ S b) : MapZ w' b n f := by
  obtain ⟨D, ⟨es, ck, hb, r⟩, hD⟩ := h
  exact ⟨D, ⟨es, ck, (ho.block b (Array.getElem?_eq_some_iff.1 hb).1 hS).trans hb, r⟩, hD⟩
theorem MapB.below {w w' : World} {b n : Nat} {l : List Tx} (h : MapB w b n l) (hb : Below w.heap.size w w') : MapB w' b n l := h.only (S := fun _ => False) (Only.of_below hb) (fun h => h)
theorem MapZ.below {w w' : World} {b n : Nat} {f : Int → Int} (h : MapZ w b n f) (hb : Below w.heap.size w w') : MapZ w' b n f := h.only (S := fun _ => False) (Only.of_below hb) (fun h => h)
theorem MapB.lt {w : World} {b n : Nat} {l : List Tx} (h : MapB w b n l) : b < w.heap.size := by
  obtain ⟨D, h, _⟩ := h
  exact h.lt
theorem MapZ.lt {w : World} {b n : Nat} {f : Int → Int} (h : MapZ w b n f) : b < w.heap.size := by
  obtain ⟨D, h, _⟩ := h
  exact h.lt

theorem plainElem_bool_inv {P : Program} {e : TypeId} (he : P.underlying e = some .bool) {v : Value} {z : DataW Unit × List MemPlace} (h : plainElem P e v = some z) : ∃ x, v = .bool x ∧ z = (.lit (.bool x), []) := by
  unfold plainElem at h
  rw [he] at h
  cases v <;> simp at h
  exact ⟨_, rfl, h.symm⟩

theorem MapB.look {w : World} {b n : Nat} {l : List Tx} (h : MapB w b n l) (x : Tx) (hx : x.length ≤ 1000) :
    (Instr.lookup 143 (.map (some b)) (.string ⟨x.toArray⟩) false).run Tryz.prog w = .ok (.bool (decide (x ∈ l))) w := by
  obtain ⟨D, ho, hD⟩ := h
  obtain ⟨v, ps, hrun, hv⟩ := ho.lookup (string_keyed Tryz.underlying9) Tryz.underlying143 (zeroB w) (plainElem_bool Tryz.underlying4 false) (keyOf_string_mk Tryz.underlying9 (s := ⟨x.toArray⟩) (show x.toArray.size ≤ maxLen by simp; unfold maxLen; omega))
  obtain ⟨y, rfl, hy⟩ := plainElem_bool_inv Tryz.underlying4 hv
  simp only [Prod.mk.injEq] at hy
  have h1 := Lit.bool.inj (DataW.lit.inj ((hD x).symm.trans hy.1))
  clear hy hv
  subst h1
  exact hrun
theorem MapZ.look {w : World} {b n : Nat} {f : Int → Int} (h : MapZ w b n f) (x : Int) (hx : -9223372036854775808 ≤ x ∧ x ≤ 9223372036854775807) :
    (Instr.lookup 144 (.map (some b)) (.int .i64 x) false).run Tryz.prog w = .ok (.int .i64 (f x)) w := by
  obtain ⟨D, ho, hD⟩ := h
  obtain ⟨c, hrun, hat, _⟩ := ho.lookup_int (int_keyed Tryz.underlying3) Tryz.underlying144 Tryz.underlying3 (zeroZ w) (keyOf_int_mk Tryz.underlying3 (WalkArith.wf_i64 hx))
  have h1 := (Lit.int.inj (DataW.lit.inj ((hD x).symm.trans hat))).2
  clear hat
  subst h1
  exact hrun

theorem wpList_setB {w : World} {ops : Array Oper} {rest : List Oper} {o : Oper} {a : Act} {Q : Exit → Act → World → Prop} (hg : o.guard = none) (m x v : Operand) (hop : o.op = Op.mapUpdate 143 m x v)
    (b n : Nat) (l : List Tx) (k : Tx) (hm : a.eval m = .map (some b)) (hx : a.eval x = .string ⟨k.toArray⟩) (hv : a.eval v = .bool true) (h : MapB w b n l) (hk : k.length ≤ 1000) (hn : n ≤ 1000000)
    (hK : ∀ w', Hid (MapB w' b (n + 1) (k :: l)) → Hid (Only (fun c => c = b) w w') → wpList Tryz.prog ops Q rest (a.put o.dst undef) w') : wpList Tryz.prog ops Q (o :: rest) a w := by
  obtain ⟨D, ho, hD⟩ := h
  refine wpList_mapUpdate_own w hg m x v _ hop 9 4 (string_keyed Tryz.underlying9) Tryz.underlying143 _ b n D hm ho (by unfold maxLen; omega) _ _ (.string k) hx hv (keyOf_string_mk Tryz.underlying9 (s := ⟨k.toArray⟩) (show k.toArray.size ≤ maxLen by simp; unfold maxLen; omega)) _ [] (plainElem_bool Tryz.underlying4 true) ?_
  intro w' ho' hgr
  refine hK w' (Lib.hid ⟨_, ho', fun t => ?_⟩) (Lib.hid ?_)
  · by_cases e : t = k
    · subst e
      rw [atKey_put_same ho.isMap (by simp [WideAt.IsKeyLit])]
      simp
    · rw [atKey_put_other (fun h => e (by injection h)), hD t]
      simp [e]
  · exact ⟨hgr.os, hgr.tape, hgr.output, hgr.size, fun k hk hne => hgr.block k hk (fun e => hne (by injection e))⟩
theorem wpList_setZ {w : World} {ops : Array Oper} {rest : List Oper} {o : Oper} {a : Act} {Q : Exit → Act → World → Prop} (hg : o.guard = none) (m x v : Operand) (hop : o.op = Op.mapUpdate 144 m x v)
    (b n : Nat) (f : Int → Int) (k d : Int) (hm : a.eval m = .map (some b)) (hx : a.eval x = .int .i64 k) (hv : a.eval v = .int .i64 d) (h : MapZ w b n f) (hk : -9223372036854775808 ≤ k ∧ k ≤ 9223372036854775807) (hd : -9223372036854775808 ≤ d ∧ d ≤ 9223372036854775807) (hn : n ≤ 1000000)
    (hK : ∀ w', Hid (MapZ w' b (n + 1) (fun i => if i = k then d else f i)) → Hid (Only (fun c => c = b) w w') → wpList Tryz.prog ops Q rest (a.put o.dst undef) w') : wpList Tryz.prog ops Q (o :: rest) a w := by
  obtain ⟨D, ho, hD⟩ := h
  refine wpList_mapUpdate_own w hg m x v _ hop 3 3 (int_keyed Tryz.underlying3) Tryz.underlying144 _ b n D hm ho (by unfold maxLen; omega) _ _ (.int .i64 k) hx hv (keyOf_int_mk Tryz.underlying3 (WalkArith.wf_i64 hk)) _ [] (plainElem_int Tryz.underlying3 (WalkArith.wf_i64 hd)) ?_
  intro w' ho' hgr
  refine hK w' (Lib.hid ⟨_, ho', fun t => ?_⟩) (Lib.hid ?_)
  · by_cases e : t = k
    · subst e
      rw [atKey_put_same ho.isMap (by simp [WideAt.IsKeyLit])]
      simp
    · rw [atKey_put_other (fun h => e (by injection h)), hD t]
      simp [e]
  · exact ⟨hgr.os, hgr.tape, hgr.output, hgr.size, fun k hk hne => hgr.block k hk (fun e => hne (by injection e))⟩

theorem ruleName_any (r : Rul) (p : Pl) (w : World) : Calls Tryz.prog 67 #[rulV r p] w fun e w' => e = .returned (.string ⟨(r.name).toArray⟩) ∧ Below w.heap.size w w' := by
  unfold rulV
  go_enter Tryz.func67, Tryz.ntmps67
  go_wp2_with fail
  go_ret
  exact ⟨rfl, (Below.refl _ _).alloc (Nat.le_refl _) _⟩
set_option maxHeartbeats 1000000 in
theorem differ_rule (v : Value) (l : List Rul) (w : World) (h : RulesAt w v l) (hl : l.length ≤ 1000) (hn : ∀ x ∈ l, (x.name).length ≤ 1000) :
    Calls Tryz.prog 66 #[v, .func (.func 67) #[] #[]] w fun e w' => e = .returned (.bool (decide ((l.map (fun x => x.name)).Nodup))) ∧ Below w.heap.size w w' := by
  have HL := Lib.hid h
  have hmk := fun w => run_makeMap_hint (P := Tryz.prog) 143 9 4 .i64 (l.length : Int) Tryz.underlying143 w
  obtain ⟨a0, c0, rfl, h1, h2⟩ := h.form
  clear h
  go_enter Tryz.func66, Tryz.ntmps66
  go_wp2_with fail
  clear hmk
  go_loopw [13] (fun i wr => ∃ (j : Nat) (S : List Tx), j ≤ l.length ∧ i = .int .i64 j ∧ Hid (MapB wr w.heap.size j S) ∧ Hid (∀ t, t ∈ S ↔ t ∈ (l.take j).map (fun x => x.name)) ∧ Hid (((l.take j).map (fun x => x.name)).Nodup) ∧ Hid (Below w.heap.size w wr)) (fun i _ => l.length - (intOf i).toNat)
  case atStart => exact ⟨0, [], by omega, rfl, Lib.hid (MapB.made w), Lib.hid (by simp), Lib.hid (by simp), Lib.hid ((Below.refl _ _).alloc (Nat.le_refl _) _)⟩
  case round =>
    obtain ⟨j, S, hj, rfl, HM, HS, HN, HB⟩ := hrel
    by_cases hlt : j < l.length
    · obtain ⟨b, cap, p, hv, hb, hr, hc⟩ := RulesAt.at_ (HL.out.below HB.out) j hlt
      injection hv with e1 e2 e3
      subst e1
      clear e2 e3
      obtain ⟨c0, c1, c2, c3, c4, c5, c6, c7, c8⟩ := hc
      clear hr
      have hx := hn l[j] (List.getElem_mem hlt)
      have HT : Hid ((l.take (j + 1)).map (fun x => x.name) = (l.take j).map (fun x => x.name) ++ [l[j].name]) := Lib.hid (by rw [List.take_succ_eq_append_getElem hlt, List.map_append]; rfl)
      have HNo : Hid ((l[j].name) ∈ (l.take j).map (fun x => x.name) → ¬ (l.map (fun x => x.name)).Nodup) := Lib.hid (fun hm hnd => by
        rw [← List.take_append_drop (j + 1) l, List.map_append, HT.out] at hnd
        have h3 := (List.nodup_append.1 (List.nodup_append.1 hnd).1).2.2
        exact h3 _ hm _ (by simp) rfl)
      have HC1 := Lib.hid (ruleName_any l[j] p)
      unfold rulV at HC1
      generalize l[j] = x at *
      go_wp2_with fail
      refine (HC1.out _).mono ?_
      rintro e w5 ⟨rfl, hB5⟩
      have HM5 := Lib.hid ((HM.out.below ((Below.refl _ _).alloc (Nat.le_refl _) _)).below hB5)
      have hcell := hB5.cell (p := ⟨wr.heap.size, 0, none⟩) (by simp)
      have hcell1 := hB5.cell (p := ⟨wr.heap.size, 1, none⟩) (by simp)
      have hcell2 := hB5.cell (p := ⟨wr.heap.size, 2, none⟩) (by simp)
      have hcell3 := hB5.cell (p := ⟨wr.heap.size, 3, none⟩) (by simp)
      have hcell4 := hB5.cell (p := ⟨wr.heap.size, 4, none⟩) (by simp)
      have hcell5 := hB5.cell (p := ⟨wr.heap.size, 5, none⟩) (by simp)
      have hcell6 := hB5.cell (p := ⟨wr.heap.size, 6, none⟩) (by simp)
      have hcell7 := hB5.cell (p := ⟨wr.heap.size, 7, none⟩) (by simp)
      have hcell8 := hB5.cell (p := ⟨wr.heap.size, 8, none⟩) (by simp)
      have HB5 := Lib.hid ((HB.out.alloc HB.out.size _).trans (hB5.mono (by simp; have := HB.out.size; omega)))
      have hw5 : wr.heap.size < w5.heap.size := by have := hB5.size; simp at this; omega
      clear hB5 c0 c1 c2 c3 c4 c5 c6 c7 c8 hb
      have hlook := HM5.out.look (x.name) hx
      by_cases hin : (x.name) ∈ S
      · have hd : decide ((x.name) ∈ S) = true := by simpa using hin
        rw [hd] at hlook
        go_wp2_with fail
        go_ret
        refine ⟨?_, HB5.out⟩
        rw [decide_eq_false (HNo.out ((HS.out _).1 hin))]
        rfl
      · have hd : decide ((x.name) ∈ S) = false := by simpa using hin
        rw [hd] at hlook
        go_wp2_with fail
        refine (HC1.out _).mono ?_
        rintro e w6 ⟨rfl, hB6⟩
        have HM6 := Lib.hid (HM5.out.below hB6)
        have HB6 := Lib.hid (HB5.out.trans (hB6.mono HB5.out.size))
        clear hB6 hlook
        go_wp2_with (at_mapUpdate; refine wpList_setB rfl _ _ _ rfl w.heap.size j S (x.name) rfl rfl rfl HM6.out hx (by omega) ?_)
        intro w7 HM7 HO7
        have HB7 := Lib.hid (HO7.out.below HB6.out HB6.out.size (fun k hk => by omega))
        clear HO7
        go_wp2_with fail
        go_roundw
        case rel =>
          refine ⟨j + 1, _, by omega, by go_num, HM7, Lib.hid (fun t => ?_), Lib.hid ?_, HB7⟩
          · rw [HT.out, List.mem_append, ← HS.out t, List.mem_cons, List.mem_singleton]
            exact Or.comm
          · rw [HT.out]
            refine List.nodup_append.2 ⟨HN.out, by simp, fun a ha b hb e => ?_⟩
            rw [List.mem_singleton] at hb
            subst hb e
            exact hin ((HS.out _).2 ha)
        case measure => simp [intOf]; omega
    · have HN2 := HN.out
      rw [List.take_of_length_le (by omega)] at HN2
      have HN3 := Lib.hid HN2
      clear HN2
      go_wp2_with fail
      go_ret
      refine ⟨?_, HB.out⟩
      rw [decide_eq_true HN3.out]
      rfl

theorem itemName_any (r : Tx) (w : World) : Calls Tryz.prog 65 #[itmV r] w fun e w' => e = .returned (.string ⟨(r).toArray⟩) ∧ Below w.heap.size w w' := by
  unfold itmV
  go_enter Tryz.func65, Tryz.ntmps65
  go_wp2_with fail
  go_ret
  exact ⟨rfl, (Below.refl _ _).alloc (Nat.le_refl _) _⟩
set_option maxHeartbeats 1000000 in
theorem differ_item (v : Value) (l : List Tx) (w : World) (h : ItemsAt w v l) (hl : l.length ≤ 1000) (hn : ∀ x ∈ l, (x).length ≤ 1000) :
    Calls Tryz.prog 64 #[v, .func (.func 65) #[] #[]] w fun e w' => e = .returned (.bool (decide ((l.map (fun x => x)).Nodup))) ∧ Below w.heap.size w w' := by
  have HL := Lib.hid h
  have hmk := fun w => run_makeMap_hint (P := Tryz.prog) 143 9 4 .i64 (l.length : Int) Tryz.underlying143 w
  obtain ⟨a0, c0, rfl, h1, h2⟩ := h.form
  clear h
  go_enter Tryz.func64, Tryz.ntmps64
  go_wp2_with fail
  clear hmk
  go_loopw [13] (fun i wr => ∃ (j : Nat) (S : List Tx), j ≤ l.length ∧ i = .int .i64 j ∧ Hid (MapB wr w.heap.size j S) ∧ Hid (∀ t, t ∈ S ↔ t ∈ (l.take j).map (fun x => x)) ∧ Hid (((l.take j).map (fun x => x)).Nodup) ∧ Hid (Below w.heap.size w wr)) (fun i _ => l.length - (intOf i).toNat)
  case atStart => exact ⟨0, [], by omega, rfl, Lib.hid (MapB.made w), Lib.hid (by simp), Lib.hid (by simp), Lib.hid ((Below.refl _ _).alloc (Nat.le_refl _) _)⟩
  case round =>
    obtain ⟨j, S, hj, rfl, HM, HS, HN, HB⟩ := hrel
    by_cases hlt : j < l.length
    · obtain ⟨b, cap, hv, hb, hc⟩ := ItemsAt.at_ (HL.out.below HB.out) j hlt
      injection hv with e1 e2 e3
      subst e1
      clear e2 e3
      obtain ⟨c0, c1, c2, c3, c4, c5, c6⟩ := hc
      skip
      have hx := hn l[j] (List.getElem_mem hlt)
      have HT : Hid ((l.take (j + 1)).map (fun x => x) = (l.take j).map (fun x => x) ++ [l[j]]) := Lib.hid (by rw [List.take_succ_eq_append_getElem hlt, List.map_append]; rfl)
      have HNo : Hid ((l[j]) ∈ (l.take j).map (fun x => x) → ¬ (l.map (fun x => x)).Nodup) := Lib.hid (fun hm hnd => by
        rw [← List.take_append_drop (j + 1) l, List.map_append, HT.out] at hnd
        have h3 := (List.nodup_append.1 (List.nodup_append.1 hnd).1).2.2
        exact h3 _ hm _ (by simp) rfl)
      have HC1 := Lib.hid (itemName_any l[j])
      unfold itmV at HC1
      generalize l[j] = x at *
      go_wp2_with fail
      refine (HC1.out _).mono ?_
      rintro e w5 ⟨rfl, hB5⟩
      have HM5 := Lib.hid ((HM.out.below ((Below.refl _ _).alloc (Nat.le_refl _) _)).below hB5)
      have hcell := hB5.cell (p := ⟨wr.heap.size, 0, none⟩) (by simp)
      have hcell1 := hB5.cell (p := ⟨wr.heap.size, 1, none⟩) (by simp)
      have hcell2 := hB5.cell (p := ⟨wr.heap.size, 2, none⟩) (by simp)
      have hcell3 := hB5.cell (p := ⟨wr.heap.size, 3, none⟩) (by simp)
      have hcell4 := hB5.cell (p := ⟨wr.heap.size, 4, none⟩) (by simp)
      have hcell5 := hB5.cell (p := ⟨wr.heap.size, 5, none⟩) (by simp)
      have hcell6 := hB5.cell (p := ⟨wr.heap.size, 6, none⟩) (by simp)
      have HB5 := Lib.hid ((HB.out.alloc HB.out.size _).trans (hB5.mono (by simp; have := HB.out.size; omega)))
      have hw5 : wr.heap.size < w5.heap.size := by have := hB5.size; simp at this; omega
      clear hB5 c0 c1 c2 c3 c4 c5 c6 hb
      have hlook := HM5.out.look (x) hx
      by_cases hin : (x) ∈ S
      · have hd : decide ((x) ∈ S) = true := by simpa using hin
        rw [hd] at hlook
        go_wp2_with fail
        go_ret
        refine ⟨?_, HB5.out⟩
        rw [decide_eq_false (HNo.out ((HS.out _).1 hin))]
        rfl
      · have hd : decide ((x) ∈ S) = false := by simpa using hin
        rw [hd] at hlook
        go_wp2_with fail
        refine (HC1.out _).mono ?_
        rintro e w6 ⟨rfl, hB6⟩
        have HM6 := Lib.hid (HM5.out.below hB6)
        have HB6 := Lib.hid (HB5.out.trans (hB6.mono HB5.out.size))
        clear hB6 hlook
        go_wp2_with (at_mapUpdate; refine wpList_setB rfl _ _ _ rfl w.heap.size j S (x) rfl rfl rfl HM6.out hx (by omega) ?_)
        intro w7 HM7 HO7
        have HB7 := Lib.hid (HO7.out.below HB6.out HB6.out.size (fun k hk => by omega))
        clear HO7
        go_wp2_with fail
        go_roundw
        case rel =>
          refine ⟨j + 1, _, by omega, by go_num, HM7, Lib.hid (fun t => ?_), Lib.hid ?_, HB7⟩
          · rw [HT.out, List.mem_append, ← HS.out t, List.mem_cons, List.mem_singleton]
            exact Or.comm
          · rw [HT.out]
            refine List.nodup_append.2 ⟨HN.out, by simp, fun a ha b hb e => ?_⟩
            rw [List.mem_singleton] at hb
            subst hb e
            exact hin ((HS.out _).2 ha)
        case measure => simp [intOf]; omega
    · have HN2 := HN.out
      rw [List.take_of_length_le (by omega)] at HN2
      have HN3 := Lib.hid HN2
      clear HN2
      go_wp2_with fail
      go_ret
      refine ⟨?_, HB.out⟩
      rw [decide_eq_true HN3.out]
      rfl
end Go.Proofs.YtfpcgjgkbniofaaGreatDoor
