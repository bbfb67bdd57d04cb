/- catalog.Valid at a good catalog: every. -/
import Derived.Test.YtfpcgjgkbniofaaGreatDoorGPut
set_option linter.unusedVariables false
set_option linter.unusedSimpArgs false
namespace Go.Proofs.YtfpcgjgkbniofaaGreatDoor
open Go.RowKit

/-- where a rule's three lists lie -/
structure Pl where
  at_ : Option Addr
  ct : Nat
  ag : Option Addr
  cg : Nat
  ab : Option Addr
  cb : Nat
def rulV (r : Rul) (p : Pl) : Value := .agg #[.string ⟨r.name.toArray⟩, .bool r.spawn, .int .i64 0, .int .i64 r.time, .int .i64 1, .int .i64 r.of_, .slice p.at_ r.take.length p.ct, .slice p.ag r.give.length p.cg, .slice p.ab r.back.length p.cb]
def itmV (n : Tx) : Value := .agg #[.string ⟨n.toArray⟩, .bool false, .bool false, .bool false, .int .i64 0, .int .i64 0, .int .i64 0]
def amtV (a : Amt) : Value := .agg #[.int .i64 a.item, .int .i64 a.n]
def catV (vi vr : Value) : Value := .agg #[vi, vr, .slice none 0 0, .slice none 0 0]

/-- what reads as a rule -/
structure RulIs (w : World) (r : Rul) (p : Pl) : Prop where
  take : AmtsAt w (.slice p.at_ r.take.length p.ct) r.take
  give : AmtsAt w (.slice p.ag r.give.length p.cg) r.give
  back : AmtsAt w (.slice p.ab r.back.length p.cb) r.back
  t1 : r.take.length ≤ p.ct ∧ p.ct ≤ 9223372036854775807
  g1 : r.give.length ≤ p.cg ∧ p.cg ≤ 9223372036854775807
  b1 : r.back.length ≤ p.cb ∧ p.cb ≤ 9223372036854775807
theorem RulIs.below {w w' : World} {r : Rul} {p : Pl} (h : RulIs w r p) (hb : Below w.heap.size w w') : RulIs w' r p := ⟨h.take.below hb, h.give.below hb, h.back.below hb, h.t1, h.g1, h.b1⟩

/-- the nine cells of a rule at an address -/
structure RulCells (w : World) (b o : Nat) (r : Rul) (p : Pl) : Prop where
  c0 : w.cell? ⟨b, o, none⟩ = some (.string ⟨r.name.toArray⟩)
  c1 : w.cell? ⟨b, o + 1, none⟩ = some (.bool r.spawn)
  c2 : w.cell? ⟨b, o + 2, none⟩ = some (.int .i64 0)
  c3 : w.cell? ⟨b, o + 3, none⟩ = some (.int .i64 r.time)
  c4 : w.cell? ⟨b, o + 4, none⟩ = some (.int .i64 1)
  c5 : w.cell? ⟨b, o + 5, none⟩ = some (.int .i64 r.of_)
  c6 : w.cell? ⟨b, o + 6, none⟩ = some (.slice p.at_ r.take.length p.ct)
  c7 : w.cell? ⟨b, o + 7, none⟩ = some (.slice p.ag r.give.length p.cg)
  c8 : w.cell? ⟨b, o + 8, none⟩ = some (.slice p.ab r.back.length p.cb)
theorem RulCells.below {w w' : World} {b o : Nat} {r : Rul} {p : Pl} {B : Nat} (h : RulCells w b o r p) (hb : Below B w w') (hl : b < B) : RulCells w' b o r p :=
  ⟨(hb.cell (p := ⟨b, o, none⟩) hl).trans h.c0, (hb.cell (p := ⟨b, o + 1, none⟩) hl).trans h.c1, (hb.cell (p := ⟨b, o + 2, none⟩) hl).trans h.c2, (hb.cell (p := ⟨b, o + 3, none⟩) hl).trans h.c3, (hb.cell (p := ⟨b, o + 4, none⟩) hl).trans h.c4, (hb.cell (p := ⟨b, o + 5, none⟩) hl).trans h.c5, (hb.cell (p := ⟨b, o + 6, none⟩) hl).trans h.c6, (hb.cell (p := ⟨b, o + 7, none⟩) hl).trans h.c7, (hb.cell (p := ⟨b, o + 8, none⟩) hl).trans h.c8⟩

/-- element j of rules -/
theorem RulesAt.at_ {w : World} {v : Value} {l : List Rul} (h : RulesAt w v l) (j : Nat) (hj : j < l.length) :
    ∃ b cap p, v = .slice (some ⟨b, 0, none⟩) l.length cap ∧ b < w.heap.size ∧ RulIs w l[j] p ∧ RulCells w b (j * 9) l[j] p := by
  obtain ⟨b, cap, cs, hv, hb, ⟨vt, vg, vb, rfl, h1, h2, h3⟩, _, hc⟩ := SliceOf.at_ h j hj
  obtain ⟨at_, ct, rfl, ht⟩ := h1.form
  obtain ⟨ag, cg, rfl, hg⟩ := h2.form
  obtain ⟨ab, cb, rfl, hb2⟩ := h3.form
  exact ⟨b, cap, ⟨at_, ct, ag, cg, ab, cb⟩, hv, hb, ⟨h1, h2, h3, ht, hg, hb2⟩, ⟨hc 0 (by omega), hc 1 (by omega), hc 2 (by omega), hc 3 (by omega), hc 4 (by omega), hc 5 (by omega), hc 6 (by omega), hc 7 (by omega), hc 8 (by omega)⟩⟩
structure ItmCells (w : World) (b o : Nat) (n : Tx) : Prop where
  c0 : w.cell? ⟨b, o, none⟩ = some (.string ⟨n.toArray⟩)
  c1 : w.cell? ⟨b, o + 1, none⟩ = some (.bool false)
  c2 : w.cell? ⟨b, o + 2, none⟩ = some (.bool false)
  c3 : w.cell? ⟨b, o + 3, none⟩ = some (.bool false)
  c4 : w.cell? ⟨b, o + 4, none⟩ = some (.int .i64 0)
  c5 : w.cell? ⟨b, o + 5, none⟩ = some (.int .i64 0)
  c6 : w.cell? ⟨b, o + 6, none⟩ = some (.int .i64 0)
theorem ItemsAt.at_ {w : World} {v : Value} {l : List Tx} (h : ItemsAt w v l) (j : Nat) (hj : j < l.length) :
    ∃ b cap, v = .slice (some ⟨b, 0, none⟩) l.length cap ∧ b < w.heap.size ∧ ItmCells w b (j * 7) l[j] := by
  obtain ⟨b, cap, cs, hv, hb, rfl, _, hc⟩ := SliceOf.at_ h j hj
  exact ⟨b, cap, hv, hb, ⟨hc 0 (by omega), hc 1 (by omega), hc 2 (by omega), hc 3 (by omega), hc 4 (by omega), hc 5 (by omega), hc 6 (by omega)⟩⟩

structure AmtCells (w : World) (b o : Nat) (a : Amt) : Prop where
  c0 : w.cell? ⟨b, o, none⟩ = some (.int .i64 a.item)
  c1 : w.cell? ⟨b, o + 1, none⟩ = some (.int .i64 a.n)
theorem AmtsAt.at2 {w : World} {v : Value} {l : List Amt} (h : AmtsAt w v l) (j : Nat) (hj : j < l.length) :
    ∃ b cap, v = .slice (some ⟨b, 0, none⟩) l.length cap ∧ b < w.heap.size ∧ AmtCells w b (j * 2) l[j] := by
  obtain ⟨b, cap, hv, hb, h1, h2⟩ := AmtsAt.at_ h j hj
  exact ⟨b, cap, hv, hb, ⟨h1, h2⟩⟩

set_option maxHeartbeats 1000000 in
theorem every_rule (v : Value) (l : List Rul) (f : Nat) (lb : Array Value) (w : World) (h : RulesAt w v l) (hl : l.length ≤ 1000)
    (eg : ∀ args w, (callFunc f args).run Tryz.prog w = .ok (.enter f args) w)
    (hf : ∀ j (hj : j < l.length) p w', Below w.heap.size w w' → RulIs w' l[j] p → Calls Tryz.prog f (#[rulV l[j] p] ++ lb) w' fun e w'' => e = .returned (.bool true) ∧ Below w'.heap.size w' w'') :
    Calls Tryz.prog 52 #[v, .func (.func f) #[] lb] w fun e w' => e = .returned (.bool true) ∧ Below w.heap.size w w' := by
  have HL := Lib.hid h
  have HF := Lib.hid hf
  obtain ⟨a0, c0, rfl, h1, h2⟩ := h.form
  clear h hf
  go_enter Tryz.func52, Tryz.ntmps52
  go_wp2_with fail
  go_loopw [9] (fun i wr => ∃ j : Nat, j ≤ l.length ∧ i = .int .i64 j ∧ Hid (Below w.heap.size w wr)) (fun i _ => l.length - (intOf i).toNat)
  case atStart => exact ⟨0, by omega, rfl, Lib.hid (Below.refl _ _)⟩
  case round =>
    obtain ⟨j, hj, rfl, HB⟩ := hrel
    by_cases hlt : j < l.length
    · obtain ⟨b, cap, p, hv, hb, hr, hc⟩ := RulesAt.at_ (HL.out.below HB.out) j hlt
      injection hv with e1 e2 e3
      subst e1
      clear e2 e3
      obtain ⟨c0, c1, c2, c3, c4, c5, c6, c7, c8⟩ := hc
      have HR := Lib.hid hr
      have HFj := Lib.hid (HF.out j hlt p)
      clear hr
      unfold rulV at HFj
      generalize l[j] = x at *
      go_wp2_with fail
      refine (HFj.out _ (HB.out.alloc HB.out.size _) (HR.out.below ((Below.refl _ _).alloc (Nat.le_refl _) _))).mono ?_
      rintro e w5 ⟨rfl, hB5⟩
      have HB5 := Lib.hid ((HB.out.alloc HB.out.size _).trans (hB5.mono (by simp; have := HB.out.size; omega)))
      clear hB5
      go_wp2_with fail
      go_roundw
      case rel => exact ⟨j + 1, by omega, by go_num, HB5⟩
      case measure => simp [intOf]; omega
    · go_wp2_with fail
      go_ret
      exact ⟨rfl, HB.out⟩

set_option maxHeartbeats 1000000 in
theorem every_item (v : Value) (l : List Tx) (f : Nat) (lb : Array Value) (w : World) (h : ItemsAt w v l) (hl : l.length ≤ 1000)
    (eg : ∀ args w, (callFunc f args).run Tryz.prog w = .ok (.enter f args) w)
    (hf : ∀ j (hj : j < l.length)  w', Below w.heap.size w w' → Calls Tryz.prog f (#[itmV l[j]] ++ lb) w' fun e w'' => e = .returned (.bool true) ∧ Below w'.heap.size w' w'') :
    Calls Tryz.prog 58 #[v, .func (.func f) #[] lb] w fun e w' => e = .returned (.bool true) ∧ Below w.heap.size w w' := by
  have HL := Lib.hid h
  have HF := Lib.hid hf
  obtain ⟨a0, c0, rfl, h1, h2⟩ := h.form
  clear h hf
  go_enter Tryz.func58, Tryz.ntmps58
  go_wp2_with fail
  go_loopw [9] (fun i wr => ∃ j : Nat, j ≤ l.length ∧ i = .int .i64 j ∧ Hid (Below w.heap.size w wr)) (fun i _ => l.length - (intOf i).toNat)
  case atStart => exact ⟨0, by omega, rfl, Lib.hid (Below.refl _ _)⟩
  case round =>
    obtain ⟨j, hj, rfl, HB⟩ := hrel
    by_cases hlt : j < l.length
    · obtain ⟨b, cap, hv, hb, hc⟩ := ItemsAt.at_ (HL.out.below HB.out) j hlt
      injection hv with e1 e2 e3
      subst e1
      clear e2 e3
      obtain ⟨c0, c1, c2, c3, c4, c5, c6⟩ := hc
      skip
      have HFj := Lib.hid (HF.out j hlt)
      skip
      unfold itmV at HFj
      generalize l[j] = x at *
      go_wp2_with fail
      refine (HFj.out _ (HB.out.alloc HB.out.size _)).mono ?_
      rintro e w5 ⟨rfl, hB5⟩
      have HB5 := Lib.hid ((HB.out.alloc HB.out.size _).trans (hB5.mono (by simp; have := HB.out.size; omega)))
      clear hB5
      go_wp2_with fail
      go_roundw
      case rel => exact ⟨j + 1, by omega, by go_num, HB5⟩
      case measure => simp [intOf]; omega
    · go_wp2_with fail
      go_ret
      exact ⟨rfl, HB.out⟩

set_option maxHeartbeats 1000000 in
theorem every_amt (v : Value) (l : List Amt) (f : Nat) (lb : Array Value) (w : World) (h : AmtsAt w v l) (hl : l.length ≤ 1000)
    (eg : ∀ args w, (callFunc f args).run Tryz.prog w = .ok (.enter f args) w)
    (hf : ∀ j (hj : j < l.length)  w', Below w.heap.size w w' → Calls Tryz.prog f (#[amtV l[j]] ++ lb) w' fun e w'' => e = .returned (.bool true) ∧ Below w'.heap.size w' w'') :
    Calls Tryz.prog 82 #[v, .func (.func f) #[] lb] w fun e w' => e = .returned (.bool true) ∧ Below w.heap.size w w' := by
  have HL := Lib.hid h
  have HF := Lib.hid hf
  obtain ⟨a0, c0, rfl, h1, h2⟩ := h.form
  clear h hf
  go_enter Tryz.func82, Tryz.ntmps82
  go_wp2_with fail
  go_loopw [9] (fun i wr => ∃ j : Nat, j ≤ l.length ∧ i = .int .i64 j ∧ Hid (Below w.heap.size w wr)) (fun i _ => l.length - (intOf i).toNat)
  case atStart => exact ⟨0, by omega, rfl, Lib.hid (Below.refl _ _)⟩
  case round =>
    obtain ⟨j, hj, rfl, HB⟩ := hrel
    by_cases hlt : j < l.length
    · obtain ⟨b, cap, hv, hb, hc⟩ := AmtsAt.at2 (HL.out.below HB.out) j hlt
      injection hv with e1 e2 e3
      subst e1
      clear e2 e3
      obtain ⟨c0, c1⟩ := hc
      skip
      have HFj := Lib.hid (HF.out j hlt)
      skip
      unfold amtV at HFj
      generalize l[j] = x at *
      go_wp2_with fail
      refine (HFj.out _ (HB.out.alloc HB.out.size _)).mono ?_
      rintro e w5 ⟨rfl, hB5⟩
      have HB5 := Lib.hid ((HB.out.alloc HB.out.size _).trans (hB5.mono (by simp; have := HB.out.size; omega)))
      clear hB5
      go_wp2_with fail
      go_roundw
      case rel => exact ⟨j + 1, by omega, by go_num, HB5⟩
      case measure => simp [intOf]; omega
    · go_wp2_with fail
      go_ret
      exact ⟨rfl, HB.out⟩

theorem every_table (f : Value) (w : World) : Calls Tryz.prog 54 #[.slice none 0 0, f] w fun e w' => e = .returned (.bool true) ∧ w = w' := by
  go_enter Tryz.func54, Tryz.ntmps54
  go_wp2_with fail
  refine wp_loop_rounds 1 ?_
  rw [rounds_succ]
  go_wp2_with fail
  go_ret
  exact ⟨rfl, rfl⟩

theorem every_tax (f : Value) (w : World) : Calls Tryz.prog 56 #[.slice none 0 0, f] w fun e w' => e = .returned (.bool true) ∧ w = w' := by
  go_enter Tryz.func56, Tryz.ntmps56
  go_wp2_with fail
  refine wp_loop_rounds 1 ?_
  rw [rounds_succ]
  go_wp2_with fail
  go_ret
  exact ⟨rfl, rfl⟩
end Go.Proofs.YtfpcgjgkbniofaaGreatDoor
