/- ref09.Valid at a good catalog. -/
import Derived.Test.YtfpcgjgkbniofaaGreatDoorGR9
set_option linter.unusedVariables false
set_option linter.unusedSimpArgs false
namespace Go.Proofs.YtfpcgjgkbniofaaGreatDoor
open Go.RowKit
attribute [local go_sem] Oper.semAt_some

/-- append(s, x...) of cells, at a step of a region; the slot is given -/
theorem step_appC {P : Program} {W0 w : World} {ops : Array Oper} {o : Oper} {a : Act} {K : Act → World → Prop} {Q : Exit → Act → World → Prop} {E : Prop} {B k bytes : Nat} {t e : TypeId} (hE : Elem P t e k bytes) (hgd : o.guard = none) (d : Nat) (hd : o.dst = some d) (s x : Operand)
    (ho : o.op = .call { callee := .builtin .append, args := #[s, x], argTypes := #[t, t] })
    (v : Value) (n : Nat) (xs : List Value) (hs : a.eval s = v) (ad : Addr) (m c : Nat) (cs : List Value) (hx : a.eval x = .slice (some ad) m c) (hcs : cs.length = m * k) (hnews : ∀ j u, cs[j]? = some u → w.cell? (ad.add j) = some u) (h1 : ∀ u ∈ cs, u.oneCell' = true) (hm : 0 < m)
    (hown : w.ownsRow B e k v n xs) (hB : Below B W0 w) (hle : B ≤ w.heap.size) (hn : n + m ≤ 1000000000) (hby : bytes ≤ 1000)
    (h : ∀ g cap w', Hid (w'.ownsRow B e k (.slice (some ⟨g, 0, none⟩) (n + m) cap) (n + m) (xs ++ cs)) → Hid (Below B W0 w') → Hid (Only (fun b => v.ownBlock = some b) w w') → cap ≤ 9223372036854775807 → n + m ≤ cap → K ⟨a.tmps.setIfInBounds d (.slice (some ⟨g, 0, none⟩) (n + m) cap), a.defers⟩ w') :
    if Region.wanted o (yielded ops a.tmps) = true then Oper.wp P o a w K Q else E := by
  obtain ⟨ht, i, z, hi, hz, hsize, hbyt, hzs, hk⟩ := hE
  have hcap : (n + m) * bytes ≤ 140737488355328 := Nat.le_trans (Nat.mul_le_mul hn hby) (by decide)
  refine step_append_lies w hgd s x t ho B e i z k bytes ht hi hz hsize hbyt hzs hk v n xs hs hown ad m c cs hx hcs hnews h1 hm (by unfold maxLen; omega) hcap hle w.heap.size rfl ?_
  intro g cap w' ho' hg hat hlt
  have hO := only_of_grown hg
  have hc2 : cap ≤ 9223372036854775807 ∧ n + m ≤ cap := by
    rcases ho'.2 with ⟨hv, _⟩ | ⟨_, _, _, hv, _, _, h4, h3, _⟩
    · cases hv
    · injection hv with _ _ e
      unfold maxLen at h3
      omega
  rw [hd]
  exact h g cap w' (Lib.hid ho') (Lib.hid (hO.below hB hle (fun k e => (hown.lt k e).1))) (Lib.hid hO) hc2.1 hc2.2

/-- a slice of slices of texts, of amounts -/
def TxssAt (w : World) (v : Value) (l : List (List Tx)) : Prop := SliceOf 1 (fun w x cs => ∃ u, cs = [u] ∧ TxsAt w u x) w v l
def AmtssAt (w : World) (v : Value) (l : List (List Amt)) : Prop := SliceOf 1 (fun w x cs => ∃ u, cs = [u] ∧ AmtsAt w u x) w v l
theorem TxssAt.below {w w' : World} {v : Value} {l : List (List Tx)} (h : TxssAt w v l) (hb : Below w.heap.size w w') : TxssAt w' v l := SliceOf.below h hb (fun _ _ ⟨u, h1, h2⟩ => ⟨u, h1, h2.below hb⟩)
theorem AmtssAt.below {w w' : World} {v : Value} {l : List (List Amt)} (h : AmtssAt w v l) (hb : Below w.heap.size w w') : AmtssAt w' v l := SliceOf.below h hb (fun _ _ ⟨u, h1, h2⟩ => ⟨u, h1, h2.below hb⟩)
theorem TxssAt.at_ {w : World} {v : Value} {l : List (List Tx)} (h : TxssAt w v l) (j : Nat) (hj : j < l.length) :
    ∃ b cap u, v = .slice (some ⟨b, 0, none⟩) l.length cap ∧ b < w.heap.size ∧ w.cell? ⟨b, j, none⟩ = some u ∧ TxsAt w u l[j] := by
  obtain ⟨b, cap, cs, hv, hb, ⟨u, rfl, hu⟩, _, hc⟩ := SliceOf.at_ h j hj
  have := hc 0 (by omega)
  rw [Nat.mul_one, Nat.add_zero] at this
  exact ⟨b, cap, u, hv, hb, this, hu⟩
theorem AmtssAt.at_ {w : World} {v : Value} {l : List (List Amt)} (h : AmtssAt w v l) (j : Nat) (hj : j < l.length) :
    ∃ b cap u, v = .slice (some ⟨b, 0, none⟩) l.length cap ∧ b < w.heap.size ∧ w.cell? ⟨b, j, none⟩ = some u ∧ AmtsAt w u l[j] := by
  obtain ⟨b, cap, cs, hv, hb, ⟨u, rfl, hu⟩, _, hc⟩ := SliceOf.at_ h j hj
  have := hc 0 (by omega)
  rw [Nat.mul_one, Nat.add_zero] at this
  exact ⟨b, cap, u, hv, hb, this, hu⟩

theorem txss4 {w : World} {t : TypeId} {va vb : Value} {A B : List Tx} (h1 : TxsAt w va A) (h2 : TxsAt w vb B) : TxssAt (w.alloc (.cells #[va, vb, .slice none 0 0, .slice none 0 0] t)) (.slice (some ⟨w.heap.size, 0, none⟩) 4 4) [A, B, [], []] := by
  have hb : Below w.heap.size w (w.alloc (.cells #[va, vb, .slice none 0 0, .slice none 0 0] t)) := (Below.refl _ _).alloc (Nat.le_refl _) _
  have hk := BlkC.new w t [va, vb, .slice none 0 0, .slice none 0 0]
  refine slice_of_blk (css := [[va], [vb], [.slice none 0 0], [.slice none 0 0]]) (xs := [A, B, [], []]) (cap := 4) hk (by simp) rfl ?_ (by simp) (by omega)
  intro j hj hj'
  match j, hj with
  | 0, _ => exact ⟨_, rfl, h1.below hb⟩
  | 1, _ => exact ⟨_, rfl, h2.below hb⟩
  | 2, _ => exact ⟨_, rfl, SliceOf.nil _ _ (by omega)⟩
  | 3, _ => exact ⟨_, rfl, SliceOf.nil _ _ (by omega)⟩
set_option maxRecDepth 100000 in
set_option maxHeartbeats 4000000 in
theorem names_ref (vi vr : Value) (c : Cat) (w : World) (hc : CatAt w vi vr c) (hl : c.items.length ≤ 1000) (hl2 : c.rules.length ≤ 1000) :
    Calls Tryz.prog 93 #[catV vi vr] w fun e w' => (∃ v, e = .returned v ∧ TxssAt w' v [c.items, c.rules.map (fun r => r.name), [], []]) ∧ Below w.heap.size w w' := by
  obtain ⟨ai, ci, rfl, hi1, hi2⟩ := hc.items.form
  obtain ⟨ar, cr, rfl, hr1, hr2⟩ := hc.rules.form
  have HC := Lib.hid hc
  clear hc
  unfold catV
  obtain ⟨w1, hw1⟩ : ∃ w1, w.alloc (.cells #[.slice ai c.items.length ci, .slice ar c.rules.length cr, .slice none 0 0, .slice none 0 0] 28) = w1 := ⟨_, rfl⟩
  have HB : Hid (Below w.heap.size w w1) := Lib.hid (by rw [← hw1]; exact (Below.refl _ _).alloc (Nat.le_refl _) _)
  have HX : Hid (BoxC w1 w.heap.size (.slice ai c.items.length ci) (.slice ar c.rules.length cr)) := Lib.hid (by rw [← hw1]; exact BoxC.new _ _ _)
  have m0 := HX.out.c0
  have m1 := HX.out.c1
  have m2 := HX.out.c2
  have m3 := HX.out.c3
  have mlt := HX.out.lt
  go_enter Tryz.func93, Tryz.ntmps93
  go_wp2_with fail
  clear hw1
  go_loopw [3, 7] (fun o i wr => ∃ (j : Nat) (ga : Option Addr) (gc : Nat), j ≤ c.items.length ∧ i = .int .i64 j ∧ o = .slice ga j gc ∧ gc ≤ 9223372036854775807 ∧ j ≤ gc ∧ Hid (wr.ownsRow w1.heap.size 9 1 (.slice ga j gc) j ((c.items.take j).map txV)) ∧ Hid (Below w1.heap.size w1 wr)) (fun _ i _ => c.items.length - (intOf i).toNat)
  case atStart => exact ⟨0, none, 0, by omega, rfl, rfl, by omega, by omega, Lib.hid (World.ownsRow_nil _ _ _ _), Lib.hid (Below.refl _ _)⟩
  case round =>
    obtain ⟨j, ga, gc, hj, rfl, rfl, hgc, hjg, HO, HBl⟩ := hrel
    have hBk := HBl.out
    replace HB := Lib.hid (HB.out.trans (hBk.mono HB.out.size))
    replace HX := Lib.hid (HX.out.below hBk)
    clear hBk
    try clear m0
    try clear m1
    try clear m2
    try clear m3
    try clear mlt
    have m0 := HX.out.c0
    have m1 := HX.out.c1
    have m2 := HX.out.c2
    have m3 := HX.out.c3
    have mlt := HX.out.lt
    by_cases hlt : j < c.items.length
    · obtain ⟨b, cap, cs, hv, hb, hcs, _, hcc⟩ := SliceOf.at_ (HC.out.items.below HB.out) j hlt
      injection hv with e1 e2 e3
      subst e1
      clear e2 e3
      have x0 := hcc 0 (by omega)
      rw [hcs] at x0
      have x0 : wr.cell? ⟨b, j * 7, none⟩ = some (.string ⟨c.items[j].toArray⟩) := by simpa [itmC] using x0
      have HTK : Hid (c.items.take (j + 1) = c.items.take j ++ [c.items[j]]) := Lib.hid (List.take_succ_eq_append_getElem hlt)
      clear hcs hcc
      generalize c.items[j] = x at *
      go_wp2_with (at_builtin; refine wpList_app1 (W0 := w1) elemStr rfl _ _ rfl [.string ⟨x.toArray⟩] 9 _ _ _ rfl rfl rfl (by simp [Value.oneCell']) HO.out HBl.out HBl.out.size (by omega) (by omega) ?_)
      intro g6 cap6 w6 Hown6 HB6 HO6 hcap6 hat6
      have Hown7 : Hid (w6.ownsRow w1.heap.size 9 1 (.slice (some ⟨g6, 0, none⟩) (j + 1) cap6) (j + 1) ((c.items.take (j + 1)).map txV)) := Lib.hid (by rw [HTK.out]; have h9 := Hown6.out; simpa [txV] using h9)
      have hcl : j + 1 ≤ cap6 := by
        rcases Hown7.out.2 with ⟨hv, _⟩ | ⟨_, _, _, hv, _, _, h4, h3, _⟩
        · cases hv
        · injection hv with _ _ e; omega
      clear Hown6 HO6 hat6 HO
      go_wp2_with fail
      go_roundw
      case rel => exact ⟨j + 1, some ⟨g6, 0, none⟩, cap6, by omega, by go_num, rfl, hcap6, hcl, Hown7, HB6⟩
      case measure => simp [intOf]; omega
    · obtain rfl : j = c.items.length := by omega
      have HN1 : Hid (TxsAt wr (.slice ga c.items.length gc) c.items) := Lib.hid (txs_of_own (by have h9 := HO.out; rwa [List.take_of_length_le (Nat.le_refl _)] at h9))
      clear HO HBl
      obtain ⟨w2, rfl⟩ : ∃ wo : World, wo = wr := ⟨_, rfl⟩
      go_wp2_with fail
      clear m0 m1 m2 m3 mlt
      go_loopw [4, 8] (fun o i wr => ∃ (j : Nat) (ga : Option Addr) (gc : Nat), j ≤ c.rules.length ∧ i = .int .i64 j ∧ o = .slice ga j gc ∧ gc ≤ 9223372036854775807 ∧ j ≤ gc ∧ Hid (wr.ownsRow w2.heap.size 9 1 (.slice ga j gc) j ((c.rules.take j).map (fun r => txV r.name))) ∧ Hid (Below w2.heap.size w2 wr)) (fun _ i _ => c.rules.length - (intOf i).toNat)
      case atStart => exact ⟨0, none, 0, by omega, rfl, rfl, by omega, by omega, Lib.hid (World.ownsRow_nil _ _ _ _), Lib.hid (Below.refl _ _)⟩
      case round =>
        obtain ⟨j, gb, gd, hj, rfl, rfl, hgd, hjd, HO, HBl⟩ := hrel
        replace HN1 := Lib.hid (HN1.out.below HBl.out)
        have hBk := HBl.out
        replace HB := Lib.hid (HB.out.trans (hBk.mono HB.out.size))
        replace HX := Lib.hid (HX.out.below hBk)
        clear hBk
        try clear m0
        try clear m1
        try clear m2
        try clear m3
        try clear mlt
        have m0 := HX.out.c0
        have m1 := HX.out.c1
        have m2 := HX.out.c2
        have m3 := HX.out.c3
        have mlt := HX.out.lt
        by_cases hlt : j < c.rules.length
        · obtain ⟨b, cap, p, hv, hb, hr, hcs⟩ := RulesAt.at_ (HC.out.rules.below HB.out) j hlt
          injection hv with e1 e2 e3
          subst e1
          clear e2 e3
          have x0 := hcs.c0
          have HTK : Hid (c.rules.take (j + 1) = c.rules.take j ++ [c.rules[j]]) := Lib.hid (List.take_succ_eq_append_getElem hlt)
          clear hr hcs
          generalize c.rules[j] = x at *
          go_wp2_with (at_builtin; refine wpList_app1 (W0 := w2) elemStr rfl _ _ rfl [.string ⟨x.name.toArray⟩] 9 _ _ _ rfl rfl rfl (by simp [Value.oneCell']) HO.out HBl.out HBl.out.size (by omega) (by omega) ?_)
          intro g6 cap6 w6 Hown6 HB6 HO6 hcap6 hat6
          have Hown7 : Hid (w6.ownsRow w2.heap.size 9 1 (.slice (some ⟨g6, 0, none⟩) (j + 1) cap6) (j + 1) ((c.rules.take (j + 1)).map (fun r => txV r.name))) := Lib.hid (by rw [HTK.out]; have h9 := Hown6.out; simpa [txV] using h9)
          have hcl : j + 1 ≤ cap6 := by
            rcases Hown7.out.2 with ⟨hv, _⟩ | ⟨_, _, _, hv, _, _, h4, h3, _⟩
            · cases hv
            · injection hv with _ _ e; omega
          clear Hown6 HO6 hat6 HO
          go_wp2_with fail
          go_roundw
          case rel => exact ⟨j + 1, some ⟨g6, 0, none⟩, cap6, by omega, by go_num, rfl, hcap6, hcl, Hown7, HB6⟩
          case measure => simp [intOf]; omega
        · obtain rfl : j = c.rules.length := by omega
          have HN2 : Hid (TxsAt wr (.slice gb c.rules.length gd) (c.rules.map (fun r => r.name))) := Lib.hid (by
            have h9 := HO.out
            rw [List.take_of_length_le (Nat.le_refl _)] at h9
            have h8 := txs_of_own (l := c.rules.map (fun r => r.name)) (v := .slice gb c.rules.length gd) (base := w2.heap.size) (e := 9) (w := wr) (by rw [List.length_map, List.map_map]; exact h9)
            exact h8)
          clear HO HBl
          obtain ⟨w3, rfl⟩ : ∃ wo : World, wo = wr := ⟨_, rfl⟩
          go_wp2_with fail
          go_loopw [5, 9] (fun o i wr => o = .slice none 0 0 ∧ i = .int .i64 0 ∧ Hid (wr = w3)) (fun _ _ _ => 0)
          case atStart => exact ⟨rfl, rfl, Lib.hid rfl⟩
          case round =>
            obtain ⟨rfl, rfl, HW⟩ := hrel
            obtain rfl := HW.out
            clear HW
            go_wp2_with fail
            go_loopw [6, 10] (fun o i wr2 => o = .slice none 0 0 ∧ i = .int .i64 0 ∧ Hid (wr2 = wr)) (fun _ _ _ => 0)
            case atStart => exact ⟨rfl, rfl, Lib.hid rfl⟩
            case round =>
              obtain ⟨rfl, rfl, HW⟩ := hrel
              obtain rfl := HW.out
              clear HW
              go_wp2_with fail
              go_ret
              exact ⟨⟨_, rfl, txss4 HN1.out HN2.out⟩, HB.out.alloc HB.out.size _⟩

theorem elemAmts : Elem Tryz.prog 129 61 1 24 := Elem.mk (z := .slice none 0 0) Tryz.underlying129 (by kernel_rfl) rfl (by decide)
def ruleLists (l : List Rul) : List (List Amt) := l.flatMap (fun r => [r.take, r.give, r.back])
theorem ruleLists_len (l : List Rul) : (ruleLists l).length = l.length * 3 := by
  unfold ruleLists
  induction l with
  | nil => rfl
  | cons x l ih =>
    rw [List.flatMap_cons, List.length_append, ih]
    simp only [List.length_cons, List.length_nil]
    omega
theorem ruleLists_snoc (l : List Rul) (x : Rul) : ruleLists (l ++ [x]) = ruleLists l ++ [x.take, x.give, x.back] := by simp [ruleLists]
/-- values that read as lists of amounts -/
def AmtVs (w : World) : List Value → List (List Amt) → Prop
  | [], [] => True
  | u :: us, x :: xs => AmtsAt w u x ∧ AmtVs w us xs
  | _, _ => False
theorem AmtVs.below {w w' : World} (hb : Below w.heap.size w w') : ∀ {us : List Value} {xs : List (List Amt)}, AmtVs w us xs → AmtVs w' us xs
  | [], [], _ => trivial
  | _ :: _, _ :: _, h => ⟨h.1.below hb, AmtVs.below hb h.2⟩
  | [], _ :: _, h => h.elim
  | _ :: _, [], h => h.elim
theorem AmtVs.append {w : World} : ∀ {us vs : List Value} {xs ys : List (List Amt)}, AmtVs w us xs → AmtVs w vs ys → AmtVs w (us ++ vs) (xs ++ ys)
  | [], vs, [], ys, _, h => h
  | _ :: _, vs, _ :: _, ys, h, h2 => ⟨h.1, AmtVs.append h.2 h2⟩
  | [], _, _ :: _, _, h, _ => h.elim
  | _ :: _, _, [], _, h, _ => h.elim
theorem AmtVs.len {w : World} : ∀ {us : List Value} {xs : List (List Amt)}, AmtVs w us xs → us.length = xs.length
  | [], [], _ => rfl
  | _ :: _, _ :: _, h => by simp [AmtVs.len h.2]
  | [], _ :: _, h => h.elim
  | _ :: _, [], h => h.elim
theorem AmtVs.at_ {w : World} : ∀ {us : List Value} {xs : List (List Amt)}, AmtVs w us xs → ∀ j (h : j < us.length) (h' : j < xs.length), AmtsAt w us[j] xs[j]
  | _ :: _, _ :: _, h, 0, _, _ => h.1
  | _ :: _, _ :: _, h, j + 1, h1, h2 => AmtVs.at_ h.2 j (by simpa using h1) (by simpa using h2)
  | [], [], _, j, h, _ => by simp at h
  | [], _ :: _, h, _, _, _ => h.elim
  | _ :: _, [], h, _, _, _ => h.elim
theorem amtss_of_own {w : World} {base : Nat} {e : TypeId} {v : Value} {us : List Value} {xs : List (List Amt)} (h : w.ownsRow base e 1 v us.length us) (hv : AmtVs w us xs) : AmtssAt w v xs := by
  have hl := hv.len
  refine SliceOf.of_own (css := us.map (fun u => [u])) (base := base) (e := e) ?_ (by simp) (by simp [hl]) ?_
  · have := flatten_one (fun u : Value => u) us
    rw [this, List.length_map, List.map_id']
    exact h
  · intro j h1 h2
    rw [List.getElem_map]
    exact ⟨_, rfl, hv.at_ j (by simpa using h2) h1⟩
set_option maxRecDepth 100000 in
set_option maxHeartbeats 4000000 in
theorem lists_ref (vi vr : Value) (c : Cat) (w : World) (hc : CatAt w vi vr c) (hl2 : c.rules.length ≤ 1000) :
    Calls Tryz.prog 100 #[catV vi vr] w fun e w' => (∃ v, e = .returned v ∧ AmtssAt w' v (ruleLists c.rules)) ∧ Below w.heap.size w w' := by
  obtain ⟨ai, ci, rfl, hi1, hi2⟩ := hc.items.form
  obtain ⟨ar, cr, rfl, hr1, hr2⟩ := hc.rules.form
  have HC := Lib.hid hc
  clear hc
  unfold catV
  obtain ⟨w1, hw1⟩ : ∃ w1, w.alloc (.cells #[.slice ai c.items.length ci, .slice ar c.rules.length cr, .slice none 0 0, .slice none 0 0] 28) = w1 := ⟨_, rfl⟩
  have HB : Hid (Below w.heap.size w w1) := Lib.hid (by rw [← hw1]; exact (Below.refl _ _).alloc (Nat.le_refl _) _)
  have HX : Hid (BoxC w1 w.heap.size (.slice ai c.items.length ci) (.slice ar c.rules.length cr)) := Lib.hid (by rw [← hw1]; exact BoxC.new _ _ _)
  have m0 := HX.out.c0
  have m1 := HX.out.c1
  have m2 := HX.out.c2
  have m3 := HX.out.c3
  have mlt := HX.out.lt
  go_enter Tryz.func100, Tryz.ntmps100
  go_wp2_with fail
  clear hw1
  go_loopw [3, 4] (fun o i wr => ∃ (j : Nat) (us : List Value) (ga : Option Addr) (gc : Nat), j ≤ c.rules.length ∧ i = .int .i64 j ∧ o = .slice ga (j * 3) gc ∧ gc ≤ 9223372036854775807 ∧ j * 3 ≤ gc ∧ us.length = j * 3 ∧ (∀ u ∈ us, u.oneCell' = true) ∧ Hid (AmtVs w us (ruleLists (c.rules.take j))) ∧ Hid (wr.ownsRow w1.heap.size 61 1 (.slice ga (j * 3) gc) (j * 3) us) ∧ Hid (Below w1.heap.size w1 wr)) (fun _ i _ => c.rules.length - (intOf i).toNat)
  case atStart => exact ⟨0, [], none, 0, by omega, rfl, rfl, by omega, by omega, rfl, by simp, Lib.hid trivial, Lib.hid (World.ownsRow_nil _ _ _ _), Lib.hid (Below.refl _ _)⟩
  case round =>
    obtain ⟨j, us, ga, gc, hj, rfl, rfl, hgc, hjg, hul, huo, HU, HO, HBl⟩ := hrel
    have HBw := HB
    have HX1 := HX
    have hBk := HBl.out
    replace HB := Lib.hid (HB.out.trans (hBk.mono HB.out.size))
    replace HX := Lib.hid (HX.out.below hBk)
    clear hBk
    try clear m0
    try clear m1
    try clear m2
    try clear m3
    try clear mlt
    have m0 := HX.out.c0
    have m1 := HX.out.c1
    have m2 := HX.out.c2
    have m3 := HX.out.c3
    have mlt := HX.out.lt
    by_cases hlt : j < c.rules.length
    · obtain ⟨b, cap, p, hv, hb, hr, hcs0⟩ := RulesAt.at_ HC.out.rules j hlt
      have hcs := hcs0.below HB.out hb
      injection hv with e1 e2 e3
      subst e1
      clear e2 e3
      have x6 := hcs.c6
      have x7 := hcs.c7
      have x8 := hcs.c8
      have HTK : Hid (ruleLists (c.rules.take (j + 1)) = ruleLists (c.rules.take j) ++ [c.rules[j].take, c.rules[j].give, c.rules[j].back]) := Lib.hid (by rw [List.take_succ_eq_append_getElem hlt, ruleLists_snoc])
      have HRU := Lib.hid hr
      have hbr : b < wr.heap.size := Nat.lt_of_lt_of_le hb HB.out.size
      have HCS := Lib.hid hcs0
      clear hr hcs hcs0
      generalize c.rules[j] = x at *
      obtain ⟨xn, xs, xt, xo, xk, xg, xb⟩ := x
      simp only [] at x6 x7 x8 HTK HRU
      have i1 : (j : Int) < (c.rules.length : Int) := by omega
      go_wp2_with fail
      refine startK 99 (fun W => W.cell? ⟨w.heap.size, 1, none⟩ = some (.slice (some ⟨b, 0, none⟩) c.rules.length cr) ∧ W.cell? ⟨b, j * 9 + 6, none⟩ = some (.slice p.at_ xk.length p.ct) ∧ W.cell? ⟨b, j * 9 + 7, none⟩ = some (.slice p.ag xg.length p.cg) ∧ W.cell? ⟨b, j * 9 + 8, none⟩ = some (.slice p.ab xb.length p.cb)) (by kernel_rfl) (⟨m1, x6, x7, x8⟩) (fun hHeld => ?_)
      refine takeK 0 14 (v := ?_) rfl rfl (by kernel_rfl) (by kernel_rfl) (by kernel_rfl) (by kernel_rfl) (fun _ _ _ h => h) (by rfl) ?_ (by assumption) ?_
      rotate_left
      · (intro w hSw; go_simp; first | done | with_reducible rfl)
      simp only [List.setIfInBounds_toArray, List.set_cons_zero, List.set_cons_succ]
      refine takeK 1 15 (v := ?_) rfl rfl (by kernel_rfl) (by kernel_rfl) (by kernel_rfl) (by kernel_rfl) (fun _ _ _ h => h) (by rfl) ?_ (by assumption) ?_
      rotate_left
      · (intro w hSw; go_simp; first | done | with_reducible rfl)
      simp only [List.setIfInBounds_toArray, List.set_cons_zero, List.set_cons_succ]
      refine takeK 2 16 (v := ?_) rfl rfl (by kernel_rfl) (by kernel_rfl) (by kernel_rfl) (by kernel_rfl) (fun _ _ _ h => h) (by rfl) ?_ (by assumption) ?_
      rotate_left
      · (intro w hSw; go_simp; first | done | with_reducible rfl)
      simp only [List.setIfInBounds_toArray, List.set_cons_zero, List.set_cons_succ]
      refine takeK 3 17 (v := ?_) rfl rfl (by kernel_rfl) (by kernel_rfl) (by kernel_rfl) (by kernel_rfl) (fun _ _ _ h => h) (by rfl) ?_ (by assumption) ?_
      rotate_left
      · (intro w hSw; go_simp; first | done | with_reducible rfl)
      simp only [List.setIfInBounds_toArray, List.set_cons_zero, List.set_cons_succ]
      refine takeK 4 18 (v := ?_) rfl rfl (by kernel_rfl) (by kernel_rfl) (by kernel_rfl) (by kernel_rfl) (fun _ _ _ h => h) (by rfl) ?_ (by assumption) ?_
      rotate_left
      · (intro w hSw; go_simp; first | done | with_reducible rfl)
      simp only [List.setIfInBounds_toArray, List.set_cons_zero, List.set_cons_succ]
      refine takeK 5 19 (v := ?_) rfl rfl (by kernel_rfl) (by kernel_rfl) (by kernel_rfl) (by kernel_rfl) (fun _ _ _ h => h) (by rfl) ?_ (by assumption) ?_
      rotate_left
      · (intro w hSw; go_simp; first | done | with_reducible rfl)
      simp only [List.setIfInBounds_toArray, List.set_cons_zero, List.set_cons_succ]
      refine takeK 6 20 (v := ?_) rfl rfl (by kernel_rfl) (by kernel_rfl) (by kernel_rfl) (by kernel_rfl) (fun _ _ _ h => h) (by rfl) ?_ (by assumption) ?_
      rotate_left
      · (intro w hSw; go_simp; first | done | with_reducible rfl)
      simp only [List.setIfInBounds_toArray, List.set_cons_zero, List.set_cons_succ]
      refine takeK 7 21 (v := ?_) rfl rfl (by kernel_rfl) (by kernel_rfl) (by kernel_rfl) (by kernel_rfl) (fun _ _ _ h => h) (by rfl) ?_ (by assumption) ?_
      rotate_left
      · (intro w hSw; go_simp; first | done | with_reducible rfl)
      simp only [List.setIfInBounds_toArray, List.set_cons_zero, List.set_cons_succ]
      refine takeK 8 22 (v := ?_) rfl rfl (by kernel_rfl) (by kernel_rfl) (by kernel_rfl) (by kernel_rfl) (fun _ _ _ h => h) (by rfl) ?_ (by assumption) ?_
      rotate_left
      · (intro w hSw; go_simp; first | done | with_reducible rfl)
      simp only [List.setIfInBounds_toArray, List.set_cons_zero, List.set_cons_succ]
      refine takeK 9 23 (v := ?_) rfl rfl (by kernel_rfl) (by kernel_rfl) (by kernel_rfl) (by kernel_rfl) (fun _ _ _ h => h) (by rfl) ?_ (by assumption) ?_
      rotate_left
      · (intro w hSw; go_simp; first | done | with_reducible rfl)
      simp only [List.setIfInBounds_toArray, List.set_cons_zero, List.set_cons_succ]
      refine takeK 10 24 (v := ?_) rfl rfl (by kernel_rfl) (by kernel_rfl) (by kernel_rfl) (by kernel_rfl) (fun _ _ _ h => h) (by rfl) ?_ (by assumption) ?_
      rotate_left
      · (intro w hSw; go_simp; first | done | with_reducible rfl)
      simp only [List.setIfInBounds_toArray, List.set_cons_zero, List.set_cons_succ]
      refine takeK 11 25 (v := ?_) rfl rfl (by kernel_rfl) (by kernel_rfl) (by kernel_rfl) (by kernel_rfl) (fun _ _ _ h => h) (by rfl) ?_ (by assumption) ?_
      rotate_left
      · (intro w hSw; go_simp; first | done | with_reducible rfl)
      simp only [List.setIfInBounds_toArray, List.set_cons_zero, List.set_cons_succ]
      refine takeK 12 26 (v := ?_) rfl rfl (by kernel_rfl) (by kernel_rfl) (by kernel_rfl) (by kernel_rfl) (fun _ _ _ h => h) (by rfl) ?_ (by assumption) ?_
      rotate_left
      · (intro w hSw; go_simp; first | done | with_reducible rfl)
      simp only [List.setIfInBounds_toArray, List.set_cons_zero, List.set_cons_succ]
      refine takeK 13 27 (v := ?_) rfl rfl (by kernel_rfl) (by kernel_rfl) (by kernel_rfl) (by kernel_rfl) (fun _ _ _ h => h) (by rfl) ?_ (by assumption) ?_
      rotate_left
      · (intro w hSw; go_simp; first | done | with_reducible rfl)
      simp only [List.setIfInBounds_toArray, List.set_cons_zero, List.set_cons_succ]
      refine takeK 14 28 (v := ?_) rfl rfl (by kernel_rfl) (by kernel_rfl) (by kernel_rfl) (by kernel_rfl) (fun _ _ _ h => h) (by rfl) ?_ (by assumption) ?_
      rotate_left
      · (intro w hSw; go_simp; first | done | with_reducible rfl)
      simp only [List.setIfInBounds_toArray, List.set_cons_zero, List.set_cons_succ]
      refine takeK 15 29 (v := ?_) rfl rfl (by kernel_rfl) (by kernel_rfl) (by kernel_rfl) (by kernel_rfl) (fun _ _ _ h => h) (by rfl) ?_ (by assumption) ?_
      rotate_left
      · (intro w hSw; go_simp; first | done | with_reducible rfl)
      simp only [List.setIfInBounds_toArray, List.set_cons_zero, List.set_cons_succ]
      refine takeK 16 30 (v := ?_) rfl rfl (by kernel_rfl) (by kernel_rfl) (by kernel_rfl) (by kernel_rfl) (fun _ _ _ h => h) (by rfl) ?_ (by assumption) ?_
      rotate_left
      · (intro w hSw; go_simp; first | done | with_reducible rfl)
      simp only [List.setIfInBounds_toArray, List.set_cons_zero, List.set_cons_succ]
      refine takeK 17 31 (v := ?_) rfl rfl (by kernel_rfl) (by kernel_rfl) (by kernel_rfl) (by kernel_rfl) (fun _ _ _ h => h) (by rfl) ?_ (by assumption) ?_
      rotate_left
      · (intro w hSw; go_simp; first | done | with_reducible rfl)
      simp only [List.setIfInBounds_toArray, List.set_cons_zero, List.set_cons_succ]
      refine takeK 18 32 (v := ?_) rfl rfl (by kernel_rfl) (by kernel_rfl) (by kernel_rfl) (by kernel_rfl) (fun _ _ _ h => h) (by rfl) ?_ (by assumption) ?_
      rotate_left
      · (intro w hSw; go_simp; first | done | with_reducible rfl)
      simp only [List.setIfInBounds_toArray, List.set_cons_zero, List.set_cons_succ]
      refine stepK 19 (by kernel_rfl) rfl (fun K hK => ?_)
      go_simp
      obtain ⟨w9, hw9⟩ : ∃ W, (wr.alloc (.cells #[.slice p.at_ xk.length p.ct, .slice p.ag xg.length p.cg, .slice p.ab xb.length p.cb] 61)).drew = W := ⟨_, rfl⟩
      have HB9 : Hid (Below wr.heap.size wr w9) := Lib.hid (by rw [← hw9]; exact ((Below.refl _ _).alloc (Nat.le_refl _) _).drew)
      have HK9 : Hid (BlkC w9 wr.heap.size 61 [.slice p.at_ xk.length p.ct, .slice p.ag xg.length p.cg, .slice p.ab xb.length p.cb]) := Lib.hid (by rw [← hw9]; exact (BlkC.new _ _ _).drew)
      have HO9 : Hid (w9.ownsRow w1.heap.size 61 1 (.slice ga (j * 3) gc) (j * 3) us) := Lib.hid ((Only.of_below (S := fun _ => False) HB9.out).own HO.out (fun _ _ h => h))
      rw [hw9]
      clear hHeld hw9
      have n1 := (HB9.out.cell (p := ⟨w.heap.size, 1, none⟩) mlt).trans m1
      have n6 := (HB9.out.cell (p := ⟨b, j * 9 + 6, none⟩) hbr).trans x6
      have n7 := (HB9.out.cell (p := ⟨b, j * 9 + 7, none⟩) hbr).trans x7
      have n8 := (HB9.out.cell (p := ⟨b, j * 9 + 8, none⟩) hbr).trans x8
      go_wp2_with fail
      refine hK.out _ _ (⟨n1, n6, n7, n8⟩) (fun hHeld => ?_)
      clear hK K
      try simp only [Act.put, List.setIfInBounds_toArray, List.set_cons_zero, List.set_cons_succ]
      have HBl9 := Lib.hid (HBl.out.trans (HB9.out.mono HBl.out.size))
      have HN9 : Hid (∀ q u, ([.slice p.at_ xk.length p.ct, .slice p.ag xg.length p.cg, .slice p.ab xb.length p.cb] : List Value)[q]? = some u → w9.cell? ((⟨wr.heap.size, 0, none⟩ : Addr).add q) = some u) := Lib.hid (fun q u hu => by
        have hadd : (⟨wr.heap.size, 0, none⟩ : Addr).add q = ⟨wr.heap.size, q, none⟩ := by unfold Addr.add; split <;> simp_all
        rw [hadd, HK9.out.cell]
        exact hu)
      refine stepK 20 (by kernel_rfl) rfl (fun K hK => ?_)
      refine step_appC (W0 := w1) (B := w1.heap.size) elemAmts rfl 34 rfl _ _ rfl (.slice ga (j * 3) gc) (j * 3) us rfl ⟨wr.heap.size, 0, none⟩ 3 3 [.slice p.at_ xk.length p.ct, .slice p.ag xg.length p.cg, .slice p.ab xb.length p.cb] rfl (by simp) HN9.out (by simp [Value.oneCell']) (by omega) HO9.out HBl9.out HBl9.out.size (by omega) (by omega) ?_
      intro g6 cap6 w10 Hown6 HB6 HO6 hcap6 hcap7
      clear hHeld HO6 n1 n6 n7 n8
      simp only [List.setIfInBounds_toArray, List.set_cons_zero, List.set_cons_succ]
      have HB10 := Lib.hid (HBw.out.trans (HB6.out.mono HBw.out.size))
      have hcsx := HCS.out.below HB10.out hb
      have n1 := (HX1.out.below HB6.out).c1
      have n6 := hcsx.c6
      have n7 := hcsx.c7
      have n8 := hcsx.c8
      simp only [] at n6 n7 n8
      clear hcsx
      have HU10 : Hid (AmtVs w (us ++ [.slice p.at_ xk.length p.ct, .slice p.ag xg.length p.cg, .slice p.ab xb.length p.cb]) (ruleLists (c.rules.take (j + 1)))) := Lib.hid (by rw [HTK.out]; exact HU.out.append ⟨HRU.out.take, HRU.out.give, HRU.out.back, trivial⟩)
      go_wp2_with fail
      refine hK.out _ _ (⟨n1, n6, n7, n8⟩) (fun hHeld => ?_)
      clear hK K
      try simp only [Act.put, List.setIfInBounds_toArray, List.set_cons_zero, List.set_cons_succ]
      refine takeK 21 3 (v := ?_) rfl rfl (by kernel_rfl) (by kernel_rfl) (by kernel_rfl) (by kernel_rfl) (fun _ _ _ h => h) (by rfl) ?_ (by assumption) ?_
      rotate_left
      · (intro w hSw; go_simp; first | done | with_reducible rfl)
      simp only [List.setIfInBounds_toArray, List.set_cons_zero, List.set_cons_succ]
      refine doneK (by kernel_rfl) ?_ _
      clear hHeld
      clear n1 n6 n7 n8
      have e3 : (j + 1) * 3 = j * 3 + 3 := by omega
      go_wp2_with fail
      go_roundw
      case rel => exact ⟨j + 1, us ++ [.slice p.at_ xk.length p.ct, .slice p.ag xg.length p.cg, .slice p.ab xb.length p.cb], some ⟨g6, 0, none⟩, cap6, by omega, by go_num, by rw [e3], hcap6, by omega, by simp [hul, e3], fun u hu => by
        rcases List.mem_append.1 hu with h | h
        · exact huo u h
        · simp at h; rcases h with rfl | rfl | rfl <;> rfl, HU10, Lib.hid (by rw [e3]; exact Hown6.out), HB6⟩
      case measure => simp [intOf]; omega
    · obtain rfl : j = c.rules.length := by omega
      have HL : Hid (AmtssAt wr (.slice ga (c.rules.length * 3) gc) (ruleLists c.rules)) := Lib.hid (by
        have h9 := HU.out
        rw [List.take_of_length_le (Nat.le_refl _)] at h9
        refine amtss_of_own (us := us) (base := w1.heap.size) (e := 61) ?_ (h9.below HB.out)
        rw [hul]
        exact HO.out)
      clear HO HU HBl huo
      go_wp2_with fail
      go_loopw [3, 5] (fun o i wr2 => o = .slice ga (c.rules.length * 3) gc ∧ i = .int .i64 0 ∧ Hid (wr2 = wr)) (fun _ _ _ => 0)
      case atStart => exact ⟨rfl, rfl, Lib.hid rfl⟩
      case round =>
        obtain ⟨rfl, rfl, HW⟩ := hrel
        obtain rfl := HW.out
        clear HW
        go_wp2_with fail
        go_ret
        exact ⟨⟨_, rfl, HL.out⟩, HB.out⟩
end Go.Proofs.YtfpcgjgkbniofaaGreatDoor
