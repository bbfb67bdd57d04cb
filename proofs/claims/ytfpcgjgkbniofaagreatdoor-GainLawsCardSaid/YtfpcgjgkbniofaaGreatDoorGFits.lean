/- catalog.Valid at a good catalog: names, and all together. -/
import Derived.Test.YtfpcgjgkbniofaaGreatDoorGCont
import Derived.Test.YtfpcgjgkbniofaaGreatDoorTokens
set_option linter.unusedVariables false
set_option linter.unusedSimpArgs false
namespace Go.Proofs.YtfpcgjgkbniofaaGreatDoor
open Go.RowKit

/-- a name is a single word -/
def WordT (n : Tx) : Prop := n.length ≤ 1000 ∧ lxs ⟨n.toArray⟩ = .ok [⟨0, n, 0, 0⟩]

set_option maxHeartbeats 1000000 in
theorem fits_any (n : Tx) (w : World) (hn : WordT n) (hK : Kinds w) : Calls Tryz.prog 60 #[.string ⟨n.toArray⟩] w fun e w' => e = .returned (.bool true) ∧ Below w.heap.size w w' := by
  have HT := Lib.hid (tokens_any ⟨n.toArray⟩ w (by have := hn.1; show n.toArray.size ≤ _; simp; omega) hK)
  have HN := Lib.hid hn.2
  have hlen := hn.1
  clear hn hK
  go_enter Tryz.func60, Tryz.ntmps60
  go_wp2_with fail
  refine HT.out.mono ?_
  rintro e w5 ⟨hB, ⟨ts, v, h1, h2, rfl, ho⟩ | ⟨k, er, h1, rfl, her⟩⟩
  · rw [HN.out] at h1
    injection h1 with h1
    subst h1
    have HB := Lib.hid hB
    obtain ⟨g, cap, rfl, -⟩ := ho.form (by simp)
    have hc0 := ho.cells (g := g) rfl 0 _ rfl
    have hc1 := ho.cells (g := g) rfl 1 _ rfl
    have ha0 : (⟨g, 0, none⟩ : Addr).add 0 = ⟨g, 0, none⟩ := rfl
    have ha1 : (⟨g, 0, none⟩ : Addr).add 1 = ⟨g, 1, none⟩ := rfl
    rw [ha0] at hc0
    rw [ha1] at hc1
    simp only [] at hc0 hc1
    have hcap : 1 ≤ cap ∧ cap ≤ 9223372036854775807 := by
      rcases ho.2 with ⟨hv, _⟩ | ⟨_, _, _, hv, _, _, h4, h3, _⟩
      · cases hv
      · injection hv with _ _ e
        unfold maxLen at h3
        simp at h4
        omega
    clear ho hB h2 ha0 ha1
    simp only [List.length_cons, List.length_nil]
    go_wp2_with fail
    go_ret
    exact ⟨rfl, HB.out⟩
  · rw [HN.out] at h1
    cases h1

theorem Kinds.keep {w w' : World} (h : Kinds w) (hb : Below w.heap.size w w') : Kinds w' := fun k hk => (hb.cell (p := ⟨0, k, none⟩) h.lt).trans (h k hk)

theorem fit1_any (n : Tx) (w : World) (hn : WordT n) (hK : Kinds w) : Calls Tryz.prog 59 #[itmV n] w fun e w' => e = .returned (.bool true) ∧ Below w.heap.size w w' := by
  have hB0 : Below w.heap.size w (w.alloc (.cells #[.string ⟨n.toArray⟩, .bool false, .bool false, .bool false, .int .i64 0, .int .i64 0, .int .i64 0] 59)) := (Below.refl _ _).alloc (Nat.le_refl _) _
  have HC := Lib.hid (fits_any n _ hn (hK.keep hB0))
  have HB0 := Lib.hid hB0
  clear hB0 hK hn
  unfold itmV
  go_enter Tryz.func59, Tryz.ntmps59
  go_wp2_with fail
  refine HC.out.mono ?_
  rintro e w5 ⟨rfl, hB⟩
  have HB := Lib.hid (HB0.out.trans (hB.mono (by simp)))
  clear hB
  go_wp2_with fail
  go_ret
  exact ⟨rfl, HB.out⟩
theorem fit2_any (r : Rul) (p : Pl) (w : World) (hn : WordT r.name) (hK : Kinds w) : Calls Tryz.prog 61 #[rulV r p] w fun e w' => e = .returned (.bool true) ∧ Below w.heap.size w w' := by
  have HC := Lib.hid (fun w' => fits_any r.name w' hn)
  have HK := Lib.hid hK
  clear hK hn
  unfold rulV
  go_enter Tryz.func61, Tryz.ntmps61
  go_wp2_with fail
  refine (HC.out _ (HK.out.keep ((Below.refl _ _).alloc (Nat.le_refl _) _))).mono ?_
  rintro e w5 ⟨rfl, hB⟩
  have HB := Lib.hid (((Below.refl _ _).alloc (Nat.le_refl _) _).trans (hB.mono (by simp)))
  clear hB
  go_wp2_with fail
  go_ret
  exact ⟨rfl, HB.out⟩

/-- the names of a catalog -/
structure Named (c : Cat) : Prop where
  wi : ∀ n ∈ c.items, WordT n
  wr : ∀ r ∈ c.rules, WordT r.name

/-- the box of a catalog -/
structure BoxC (w : World) (b : Nat) (vi vr : Value) : Prop where
  lt : b < w.heap.size
  c0 : w.cell? ⟨b, 0, none⟩ = some vi
  c1 : w.cell? ⟨b, 1, none⟩ = some vr
  c2 : w.cell? ⟨b, 2, none⟩ = some (.slice none 0 0)
  c3 : w.cell? ⟨b, 3, none⟩ = some (.slice none 0 0)
theorem BoxC.below {w w' : World} {b : Nat} {vi vr : Value} (h : BoxC w b vi vr) (hb : Below w.heap.size w w') : BoxC w' b vi vr :=
  ⟨Nat.lt_of_lt_of_le h.lt hb.size, (hb.cell (p := ⟨b, 0, none⟩) h.lt).trans h.c0, (hb.cell (p := ⟨b, 1, none⟩) h.lt).trans h.c1, (hb.cell (p := ⟨b, 2, none⟩) h.lt).trans h.c2, (hb.cell (p := ⟨b, 3, none⟩) h.lt).trans h.c3⟩
theorem BoxC.new (w : World) (vi vr : Value) : BoxC (w.alloc (.cells #[vi, vr, .slice none 0 0, .slice none 0 0] 28)) w.heap.size vi vr :=
  ⟨by simp, by simp, by simp, by simp, by simp⟩

set_option maxHeartbeats 1000000 in
theorem within_any (vi vr : Value) (c : Cat) (w : World) (hc : CatAt w vi vr c) (hg : Good c) : Calls Tryz.prog 34 #[catV vi vr] w fun e w' => e = .returned (.bool true) ∧ Below w.heap.size w w' := by
  have HI := Lib.hid hc.items
  have HR := Lib.hid hc.rules
  obtain ⟨ai, ci, rfl, hi1, hi2⟩ := hc.items.form
  obtain ⟨ar, cr, rfl, hr1, hr2⟩ := hc.rules.form
  have hli := hg.items
  have hlr := hg.rules
  have HG := Lib.hid hg
  clear hc hg
  unfold catV
  have q1 : decide ((c.items.length : Int) ≤ 64) = true := by simp; omega
  have q2 : decide ((c.rules.length : Int) ≤ 64) = true := by simp; omega
  go_enter Tryz.func34, Tryz.ntmps34
  go_wp2_with fail
  obtain ⟨w1, hw1⟩ : ∃ w1, w.alloc (.cells #[.slice ai c.items.length ci, .slice ar c.rules.length cr, .slice none 0 0, .slice none 0 0] 28) = w1 := ⟨_, rfl⟩
  have HB : Hid (Below w.heap.size w w1) := Lib.hid (by rw [← hw1]; exact (Below.refl _ _).alloc (Nat.le_refl _) _)
  have HX : Hid (BoxC w1 w.heap.size (.slice ai c.items.length ci) (.slice ar c.rules.length cr)) := Lib.hid (by rw [← hw1]; exact BoxC.new _ _ _)
  have m0 := HX.out.c0
  have m1 := HX.out.c1
  have m2 := HX.out.c2
  have m3 := HX.out.c3
  rw [hw1]
  clear hw1
  refine (every_rule _ c.rules 53 #[] w1 (HR.out.below HB.out) (by omega) (fun _ _ => by simp [go_sem]) (fun j hj p w' hb hr => by simpa using within1 c.rules[j] p c.items.length w' hr (HG.out.each _ (List.getElem_mem hj)))).mono ?_
  rintro e w2 ⟨rfl, hB⟩
  have HB := Lib.hid (HB.out.trans (hB.mono HB.out.size))
  have HX := Lib.hid (HX.out.below hB)
  clear hB m0 m1 m2 m3
  have m0 := HX.out.c0
  have m1 := HX.out.c1
  have m2 := HX.out.c2
  have m3 := HX.out.c3
  go_wp2_with fail
  refine (every_table _ _).mono ?_
  rintro e w' ⟨rfl, rfl⟩
  go_wp2_with fail
  refine (every_tax _ _).mono ?_
  rintro e w' ⟨rfl, rfl⟩
  go_wp2_with fail
  go_ret
  exact ⟨rfl, HB.out⟩
set_option maxHeartbeats 1000000 in
theorem namesFit_any (vi vr : Value) (c : Cat) (w : World) (hc : CatAt w vi vr c) (hg : Good c) (hn : Named c) (hK : Kinds w) : Calls Tryz.prog 35 #[catV vi vr] w fun e w' => e = .returned (.bool true) ∧ Below w.heap.size w w' := by
  have HI := Lib.hid hc.items
  have HR := Lib.hid hc.rules
  obtain ⟨ai, ci, rfl, hi1, hi2⟩ := hc.items.form
  obtain ⟨ar, cr, rfl, hr1, hr2⟩ := hc.rules.form
  have hli := hg.items
  have hlr := hg.rules
  have HG := Lib.hid hg
  clear hc hg
  unfold catV
  have HN := Lib.hid hn
  have HK := Lib.hid hK
  clear hn hK
  go_enter Tryz.func35, Tryz.ntmps35
  go_wp2_with fail
  obtain ⟨w1, hw1⟩ : ∃ w1, w.alloc (.cells #[.slice ai c.items.length ci, .slice ar c.rules.length cr, .slice none 0 0, .slice none 0 0] 28) = w1 := ⟨_, rfl⟩
  have HB : Hid (Below w.heap.size w w1) := Lib.hid (by rw [← hw1]; exact (Below.refl _ _).alloc (Nat.le_refl _) _)
  have HX : Hid (BoxC w1 w.heap.size (.slice ai c.items.length ci) (.slice ar c.rules.length cr)) := Lib.hid (by rw [← hw1]; exact BoxC.new _ _ _)
  have m0 := HX.out.c0
  have m1 := HX.out.c1
  have m2 := HX.out.c2
  have m3 := HX.out.c3
  rw [hw1]
  clear hw1
  have HK := Lib.hid (HK.out.keep HB.out)
  refine (every_item _ c.items 59 #[] w1 (HI.out.below HB.out) (by omega) (fun _ _ => by simp [go_sem]) (fun j hj w' hb => by simpa using fit1_any c.items[j] w' (HN.out.wi _ (List.getElem_mem hj)) (HK.out.keep hb))).mono ?_
  rintro e w2 ⟨rfl, hB⟩
  have HK := Lib.hid (HK.out.keep hB)
  have HB := Lib.hid (HB.out.trans (hB.mono HB.out.size))
  have HX := Lib.hid (HX.out.below hB)
  clear hB m0 m1 m2 m3
  have m0 := HX.out.c0
  have m1 := HX.out.c1
  have m2 := HX.out.c2
  have m3 := HX.out.c3
  go_wp2_with fail
  refine (every_rule _ c.rules 61 #[] w2 (HR.out.below HB.out) (by omega) (fun _ _ => by simp [go_sem]) (fun j hj p w' hb hr => by simpa using fit2_any c.rules[j] p w' (HN.out.wr _ (List.getElem_mem hj)) (HK.out.keep hb))).mono ?_
  rintro e w3 ⟨rfl, hB⟩
  have HB := Lib.hid (HB.out.trans (hB.mono HB.out.size))
  have HX := Lib.hid (HX.out.below hB)
  clear hB m0 m1 m2 m3
  have m0 := HX.out.c0
  have m1 := HX.out.c1
  have m2 := HX.out.c2
  have m3 := HX.out.c3
  go_wp2_with fail
  refine (every_table _ _).mono ?_
  rintro e w' ⟨rfl, rfl⟩
  go_wp2_with fail
  refine (every_tax _ _).mono ?_
  rintro e w' ⟨rfl, rfl⟩
  go_wp2_with fail
  go_ret
  exact ⟨rfl, HB.out⟩
theorem differ_table (f : Value) (w : World) : Calls Tryz.prog 68 #[.slice none 0 0, f] w fun e w' => e = .returned (.bool true) ∧ Below w.heap.size w w' := by
  have hmk := fun w => run_makeMap_hint (P := Tryz.prog) 143 9 4 .i64 0 Tryz.underlying143 w
  go_enter Tryz.func68, Tryz.ntmps68
  go_wp2_with fail
  refine wp_loop_rounds 1 ?_
  rw [rounds_succ]
  go_wp2_with fail
  go_ret
  exact ⟨rfl, (Below.refl _ _).alloc (Nat.le_refl _) _⟩
theorem differ_tax (f : Value) (w : World) : Calls Tryz.prog 70 #[.slice none 0 0, f] w fun e w' => e = .returned (.bool true) ∧ Below w.heap.size w w' := by
  have hmk := fun w => run_makeMap_hint (P := Tryz.prog) 143 9 4 .i64 0 Tryz.underlying143 w
  go_enter Tryz.func70, Tryz.ntmps70
  go_wp2_with fail
  refine wp_loop_rounds 1 ?_
  rw [rounds_succ]
  go_wp2_with fail
  go_ret
  exact ⟨rfl, (Below.refl _ _).alloc (Nat.le_refl _) _⟩
set_option maxHeartbeats 1000000 in
theorem namesDiffer_any (vi vr : Value) (c : Cat) (w : World) (hc : CatAt w vi vr c) (hg : Good c) (hn : Named c) (h1 : c.items.Nodup) (h2 : (c.rules.map (fun x => x.name)).Nodup) : Calls Tryz.prog 36 #[catV vi vr] w fun e w' => e = .returned (.bool true) ∧ Below w.heap.size w w' := by
  have HI := Lib.hid hc.items
  have HR := Lib.hid hc.rules
  obtain ⟨ai, ci, rfl, hi1, hi2⟩ := hc.items.form
  obtain ⟨ar, cr, rfl, hr1, hr2⟩ := hc.rules.form
  have hli := hg.items
  have hlr := hg.rules
  have HG := Lib.hid hg
  clear hc hg
  unfold catV
  have HN := Lib.hid hn
  have HD1 : Hid (decide ((c.items.map (fun x => x)).Nodup) = true) := Lib.hid (by rw [List.map_id'']; exact decide_eq_true h1; exact fun _ => rfl)
  have HD2 := Lib.hid (decide_eq_true h2)
  clear hn h1 h2
  go_enter Tryz.func36, Tryz.ntmps36
  go_wp2_with fail
  obtain ⟨w1, hw1⟩ : ∃ w1, w.alloc (.cells #[.slice ai c.items.length ci, .slice ar c.rules.length cr, .slice none 0 0, .slice none 0 0] 28) = w1 := ⟨_, rfl⟩
  have HB : Hid (Below w.heap.size w w1) := Lib.hid (by rw [← hw1]; exact (Below.refl _ _).alloc (Nat.le_refl _) _)
  have HX : Hid (BoxC w1 w.heap.size (.slice ai c.items.length ci) (.slice ar c.rules.length cr)) := Lib.hid (by rw [← hw1]; exact BoxC.new _ _ _)
  have m0 := HX.out.c0
  have m1 := HX.out.c1
  have m2 := HX.out.c2
  have m3 := HX.out.c3
  rw [hw1]
  clear hw1
  refine (differ_item _ c.items w1 (HI.out.below HB.out) (by omega) (fun x hx => (HN.out.wi x hx).1)).mono ?_
  rw [HD1.out]
  rintro e w2 ⟨rfl, hB⟩
  have HB := Lib.hid (HB.out.trans (hB.mono HB.out.size))
  have HX := Lib.hid (HX.out.below hB)
  clear hB m0 m1 m2 m3
  have m0 := HX.out.c0
  have m1 := HX.out.c1
  have m2 := HX.out.c2
  have m3 := HX.out.c3
  go_wp2_with fail
  refine (differ_rule _ c.rules w2 (HR.out.below HB.out) (by omega) (fun x hx => (HN.out.wr x hx).1)).mono ?_
  rw [HD2.out]
  rintro e w3 ⟨rfl, hB⟩
  have HB := Lib.hid (HB.out.trans (hB.mono HB.out.size))
  have HX := Lib.hid (HX.out.below hB)
  clear hB m0 m1 m2 m3
  have m0 := HX.out.c0
  have m1 := HX.out.c1
  have m2 := HX.out.c2
  have m3 := HX.out.c3
  go_wp2_with fail
  refine (differ_table _ _).mono ?_
  rintro e w4 ⟨rfl, hB⟩
  have HB := Lib.hid (HB.out.trans (hB.mono HB.out.size))
  have HX := Lib.hid (HX.out.below hB)
  clear hB m0 m1 m2 m3
  have m0 := HX.out.c0
  have m1 := HX.out.c1
  have m2 := HX.out.c2
  have m3 := HX.out.c3
  go_wp2_with fail
  refine (differ_tax _ _).mono ?_
  rintro e w5 ⟨rfl, hB⟩
  have HB := Lib.hid (HB.out.trans (hB.mono HB.out.size))
  have HX := Lib.hid (HX.out.below hB)
  clear hB m0 m1 m2 m3
  have m0 := HX.out.c0
  have m1 := HX.out.c1
  have m2 := HX.out.c2
  have m3 := HX.out.c3
  go_wp2_with fail
  go_ret
  exact ⟨rfl, HB.out⟩
set_option maxHeartbeats 1000000 in
theorem namesDiffer_no (vi vr : Value) (c : Cat) (w : World) (hc : CatAt w vi vr c) (hg : Good c) (hn : Named c) (h1 : ¬ c.items.Nodup) : Calls Tryz.prog 36 #[catV vi vr] w fun e w' => e = .returned (.bool false) ∧ Below w.heap.size w w' := by
  have HI := Lib.hid hc.items
  have HR := Lib.hid hc.rules
  obtain ⟨ai, ci, rfl, hi1, hi2⟩ := hc.items.form
  obtain ⟨ar, cr, rfl, hr1, hr2⟩ := hc.rules.form
  have hli := hg.items
  have hlr := hg.rules
  have HG := Lib.hid hg
  clear hc hg
  unfold catV
  have HN := Lib.hid hn
  have HD1 : Hid (decide ((c.items.map (fun x => x)).Nodup) = false) := Lib.hid (by rw [List.map_id'']; exact decide_eq_false h1; exact fun _ => rfl)
  clear hn h1
  go_enter Tryz.func36, Tryz.ntmps36
  go_wp2_with fail
  obtain ⟨w1, hw1⟩ : ∃ w1, w.alloc (.cells #[.slice ai c.items.length ci, .slice ar c.rules.length cr, .slice none 0 0, .slice none 0 0] 28) = w1 := ⟨_, rfl⟩
  have HB : Hid (Below w.heap.size w w1) := Lib.hid (by rw [← hw1]; exact (Below.refl _ _).alloc (Nat.le_refl _) _)
  have HX : Hid (BoxC w1 w.heap.size (.slice ai c.items.length ci) (.slice ar c.rules.length cr)) := Lib.hid (by rw [← hw1]; exact BoxC.new _ _ _)
  have m0 := HX.out.c0
  have m1 := HX.out.c1
  have m2 := HX.out.c2
  have m3 := HX.out.c3
  rw [hw1]
  clear hw1
  refine (differ_item _ c.items w1 (HI.out.below HB.out) (by omega) (fun x hx => (HN.out.wi x hx).1)).mono ?_
  rw [HD1.out]
  rintro e w2 ⟨rfl, hB⟩
  have HB := Lib.hid (HB.out.trans (hB.mono HB.out.size))
  have HX := Lib.hid (HX.out.below hB)
  clear hB m0 m1 m2 m3
  have m0 := HX.out.c0
  have m1 := HX.out.c1
  have m2 := HX.out.c2
  have m3 := HX.out.c3
  go_wp2_with fail
  go_ret
  exact ⟨rfl, HB.out⟩
end Go.Proofs.YtfpcgjgkbniofaaGreatDoor
