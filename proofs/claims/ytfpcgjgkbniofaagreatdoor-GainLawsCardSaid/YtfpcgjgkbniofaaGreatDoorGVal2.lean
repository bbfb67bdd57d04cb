/- catalog.Valid at a good catalog: tests of one element. -/
import Derived.Test.YtfpcgjgkbniofaaGreatDoorGVal
set_option linter.unusedVariables false
set_option linter.unusedSimpArgs false
namespace Go.Proofs.YtfpcgjgkbniofaaGreatDoor
open Go.RowKit

set_option maxHeartbeats 1000000 in
theorem within1 (r : Rul) (p : Pl) (n : Nat) (w : World) (hr : RulIs w r p) (hg : GoodR n r) : Calls Tryz.prog 53 #[rulV r p] w fun e w' => e = .returned (.bool true) ∧ Below w.heap.size w w' := by
  obtain ⟨rn, rs, rt, ro, lt, lg, lb⟩ := r
  have ht := hg.take.len
  have hgv := hg.give.len
  have hbk := hg.back.len
  have ho1 := hg.of1
  have ho2 := hg.of2
  have htm := hg.time
  have hsp := hg.spawn
  have hpl := hg.player
  have hhb := hg.hasBack
  have hc1 := hr.t1
  have hc2 := hr.g1
  have hc3 := hr.b1
  simp only [] at ht hgv hbk ho1 ho2 htm hsp hpl hhb hc1 hc2 hc3
  unfold rulV
  simp only []
  clear hsp hpl hhb
  have q1 : decide ((lt.length : Int) + (lg.length : Int) ≤ 64) = true := by simp; omega
  have q2 : decide ((lt.length : Int) + (lb.length : Int) ≤ 64) = true := by simp; omega
  go_enter Tryz.func53, Tryz.ntmps53
  go_wp2_with fail
  go_ret
  exact ⟨rfl, (Below.refl _ _).alloc (Nat.le_refl _) _⟩
set_option maxHeartbeats 1000000 in
theorem ruleFormed_any (r : Rul) (p : Pl) (n : Nat) (w : World) (hr : RulIs w r p) (hg : GoodR n r) : Calls Tryz.prog 75 #[rulV r p] w fun e w' => e = .returned (.bool true) ∧ Below w.heap.size w w' := by
  obtain ⟨rn, rs, rt, ro, lt, lg, lb⟩ := r
  have ht := hg.take.len
  have hgv := hg.give.len
  have hbk := hg.back.len
  have ho1 := hg.of1
  have ho2 := hg.of2
  have htm := hg.time
  have hsp := hg.spawn
  have hpl := hg.player
  have hhb := hg.hasBack
  have hc1 := hr.t1
  have hc2 := hr.g1
  have hc3 := hr.b1
  simp only [] at ht hgv hbk ho1 ho2 htm hsp hpl hhb hc1 hc2 hc3
  unfold rulV
  simp only []
  go_enter Tryz.func75, Tryz.ntmps75
  by_cases hb0 : lb = []
  · subst hb0
    cases rs with
    | true =>
      obtain ⟨h1, h2, h3, h4⟩ := hsp rfl
      subst h1 h3 h4
      go_wp2_with fail
      go_ret
      exact ⟨rfl, (Below.refl _ _).alloc (Nat.le_refl _) _⟩
    | false =>
      by_cases ht0 : lt = []
      · have h1 : rt = 1 := (hpl rfl).resolve_left (fun h => h ht0)
        subst ht0 h1
        clear hsp hpl hhb
        go_wp2_with fail
        go_ret
        exact ⟨rfl, (Below.refl _ _).alloc (Nat.le_refl _) _⟩
      · have h1 : 0 < lt.length := List.length_pos_iff.2 ht0
        have q1 : decide (0 < (lt.length : Int)) = true := by simp; omega
        have q2 : decide (0 < lt.length) = true := by simp; omega
        clear hsp hpl hhb
        go_wp2_with fail
        go_ret
        exact ⟨rfl, (Below.refl _ _).alloc (Nat.le_refl _) _⟩
  · have h1 : 0 < lb.length := List.length_pos_iff.2 hb0
    have h2 := hhb hb0
    subst h2
    have hrs : rs = false := by
      cases rs with
      | false => rfl
      | true => exact absurd (hsp rfl).2.1 hb0
    subst hrs
    have q1 : decide (0 < (lb.length : Int)) = true := by simp; omega
    have q2 : decide (0 < lb.length) = true := by simp; omega
    by_cases ht0 : lt = []
    · have h3 : rt = 1 := (hpl rfl).resolve_left (fun h => h ht0)
      subst ht0 h3
      clear hsp hpl hhb
      go_wp2_with fail
      go_ret
      exact ⟨rfl, (Below.refl _ _).alloc (Nat.le_refl _) _⟩
    · have h3 : 0 < lt.length := List.length_pos_iff.2 ht0
      have q3 : decide (0 < (lt.length : Int)) = true := by simp; omega
      have q4 : decide (0 < lt.length) = true := by simp; omega
      clear hsp hpl hhb
      go_wp2_with fail
      go_ret
      exact ⟨rfl, (Below.refl _ _).alloc (Nat.le_refl _) _⟩
set_option maxHeartbeats 1000000 in
theorem ruleInRange_any (r : Rul) (p : Pl) (n : Nat) (w : World) (hr : RulIs w r p) (hg : GoodR n r) : Calls Tryz.prog 86 #[rulV r p] w fun e w' => e = .returned (.bool true) ∧ Below w.heap.size w w' := by
  obtain ⟨rn, rs, rt, ro, lt, lg, lb⟩ := r
  have ht := hg.take.len
  have hgv := hg.give.len
  have hbk := hg.back.len
  have ho1 := hg.of1
  have ho2 := hg.of2
  have htm := hg.time
  have hsp := hg.spawn
  have hpl := hg.player
  have hhb := hg.hasBack
  have hc1 := hr.t1
  have hc2 := hr.g1
  have hc3 := hr.b1
  simp only [] at ht hgv hbk ho1 ho2 htm hsp hpl hhb hc1 hc2 hc3
  unfold rulV
  simp only []
  clear hsp hpl hhb
  have q1 : decide ((rt : Int) ≤ 1000000) = true := by simp; omega
  have q2 : decide (1 ≤ (ro : Int)) = true := by simp; omega
  have q3 : decide ((ro : Int) ≤ 1000000) = true := by simp; omega
  have q4 : decide (0 ≤ (rt : Int)) = true := by simp
  go_enter Tryz.func86, Tryz.ntmps86
  go_wp2_with fail
  go_ret
  exact ⟨rfl, (Below.refl _ _).alloc (Nat.le_refl _) _⟩
theorem itemFormed_any (n : Tx) (w : World) : Calls Tryz.prog 73 #[itmV n] w fun e w' => e = .returned (.bool true) ∧ Below w.heap.size w w' := by
  unfold itmV
  go_enter Tryz.func73, Tryz.ntmps73
  go_wp2_with fail
  go_ret
  exact ⟨rfl, (Below.refl _ _).alloc (Nat.le_refl _) _⟩
theorem itemInRange_any (n : Tx) (w : World) : Calls Tryz.prog 84 #[itmV n] w fun e w' => e = .returned (.bool true) ∧ Below w.heap.size w w' := by
  unfold itmV
  go_enter Tryz.func84, Tryz.ntmps84
  go_wp2_with fail
  go_ret
  exact ⟨rfl, (Below.refl _ _).alloc (Nat.le_refl _) _⟩
theorem amtInRange_any (a : Amt) (w : World) (h1 : 1 ≤ a.n) (h2 : a.n ≤ 1000) : Calls Tryz.prog 83 #[amtV a] w fun e w' => e = .returned (.bool true) ∧ Below w.heap.size w w' := by
  unfold amtV
  obtain ⟨ai, an⟩ := a
  simp only [] at h1 h2 ⊢
  have q1 : decide (1 ≤ (an : Int)) = true := by simp; omega
  have q2 : decide ((an : Int) ≤ 1099511627776) = true := by simp; omega
  go_enter Tryz.func83, Tryz.ntmps83
  go_wp2_with fail
  go_ret
  exact ⟨rfl, (Below.refl _ _).alloc (Nat.le_refl _) _⟩
theorem unitsIn_any (v : Value) (l : List Amt) (n K : Nat) (w : World) (h : AmtsAt w v l) (hg : GoodL n 1000 K l) (hK : K ≤ 1000) : Calls Tryz.prog 81 #[v] w fun e w' => e = .returned (.bool true) ∧ Below w.heap.size w w' := by
  have HE := Lib.hid (every_amt v l 83 #[] w h (Nat.le_trans hg.len hK) (fun _ _ => by simp [go_sem]) (fun j hj w' _ => by
    have := hg.all l[j] (List.getElem_mem hj)
    simpa using amtInRange_any l[j] w' this.2.1 this.2.2))
  obtain ⟨a0, c0, rfl, -, -⟩ := h.form
  clear h
  go_enter Tryz.func81, Tryz.ntmps81
  go_wp2_with fail
  refine HE.out.mono ?_
  rintro e w5 ⟨rfl, hB5⟩
  have HB5 := Lib.hid hB5
  clear hB5
  go_wp2_with fail
  go_ret
  exact ⟨rfl, HB5.out⟩
set_option maxHeartbeats 1000000 in
/-- the test that a list is sorted; the box of the catalog lies at b -/
theorem sorted_any (v : Value) (l : List Amt) (n K : Nat) (b : Nat) (ai : Option Addr) (ci : Nat) (w : World) (h : AmtsAt w v l) (hg : GoodL n 1000 K l) (hK : K ≤ 1000) (hc : w.cell? ⟨b, 0, none⟩ = some (.slice ai n ci)) (hb : b < w.heap.size) (hn : n ≤ 1000) :
    Calls Tryz.prog 72 #[v, .pointer (some ⟨b, 0, none⟩)] w fun e w' => e = .returned (.bool true) ∧ Below w.heap.size w w' := by
  have HL := Lib.hid h
  have HC := Lib.hid hc
  have HG := Lib.hid hg
  have hlen := Nat.le_trans hg.len hK
  obtain ⟨a0, c0, rfl, h1, h2⟩ := h.form
  clear h hc hg
  go_enter Tryz.func72, Tryz.ntmps72
  go_wp2_with fail
  go_loopw [4, 9] (fun m i wr => ∃ (j : Nat) (z : Int), j ≤ l.length ∧ i = .int .i64 j ∧ m = .int .i64 z ∧ Hid (∀ (h : j < l.length), z < (l[j].item : Int)) ∧ Hid (Below w.heap.size w wr)) (fun _ i _ => l.length - (intOf i).toNat)
  case atStart => exact ⟨0, -1, by omega, rfl, rfl, Lib.hid (fun h => by omega), Lib.hid (Below.refl _ _)⟩
  case round =>
    obtain ⟨j, z, hj, rfl, rfl, HZ, HB⟩ := hrel
    by_cases hlt : j < l.length
    · obtain ⟨b2, cap, hv, hb2, c0, c1⟩ := AmtsAt.at_ (HL.out.below HB.out) j hlt
      injection hv with e1 e2 e3
      subst e1
      clear e2 e3
      have hz := HZ.out hlt
      have hi := (HG.out.all l[j] (List.getElem_mem hlt)).1
      have HN : Hid (∀ h : j + 1 < l.length, (l[j].item : Int) < (l[j + 1].item : Int)) := Lib.hid (fun h => by
        have := List.pairwise_iff_getElem.1 HG.out.sorted j (j + 1) hlt h (by omega)
        omega)
      have hcb := (HB.out.cell (p := ⟨b, 0, none⟩) hb).trans HC.out
      have hwr := HB.out.size
      have hbw : b < wr.heap.size := by omega
      generalize l[j] = x at *
      obtain ⟨xi, xn⟩ := x
      simp only [] at c0 c1 hz hi HN
      have q1 : decide ((xi : Int) ≤ z) = false := by simp; omega
      have q2 : decide ((n : Int) ≤ (xi : Int)) = false := by simp; omega
      have q3 : decide (n ≤ xi) = false := by simp; omega
      go_wp2_with fail
      go_roundw
      case rel => exact ⟨j + 1, xi, by omega, by go_num, rfl, HN, Lib.hid (HB.out.alloc HB.out.size _)⟩
      case measure => simp [intOf]; omega
    · go_wp2_with fail
      go_ret
      exact ⟨rfl, HB.out⟩
end Go.Proofs.YtfpcgjgkbniofaaGreatDoor
