/- catalog.contains. -/
import Derived.Test.YtfpcgjgkbniofaaGreatDoorGMap
import Derived.Test.YtfpcgjgkbniofaaGreatDoorGMath
set_option linter.unusedVariables false
set_option linter.unusedSimpArgs false
namespace Go.Proofs.YtfpcgjgkbniofaaGreatDoor
open Go.RowKit

theorem ofI_take (l : List Amt) (j : Nat) (hj : j < l.length) (i : Nat) : ofI (l.take (j + 1)) i = ofI (l.take j) i + if l[j].item = i then l[j].n else 0 := by
  rw [List.take_succ_eq_append_getElem hj, ofI_append, ofI_cons, ofI_nil]
  omega
/-- a map that counts amounts -/
def cntF (l : List Amt) (z : Int) : Int := if 0 ≤ z then ((ofI l z.toNat : Nat) : Int) else 0
theorem cntF_nat (l : List Amt) (i : Nat) : cntF l (i : Int) = (ofI l i : Nat) := by simp [cntF]
theorem cntF_step (l : List Amt) (j : Nat) (hj : j < l.length) : (fun i : Int => if i = (l[j].item : Int) then cntF (l.take j) (l[j].item : Int) + (l[j].n : Int) else cntF (l.take j) i) = cntF (l.take (j + 1)) := by
  funext z
  by_cases h : z = (l[j].item : Int)
  · rw [if_pos h, h, cntF_nat, cntF_nat, ofI_take l j hj, if_pos rfl]
    omega
  · rw [if_neg h]
    unfold cntF
    by_cases hz : 0 ≤ z
    · rw [if_pos hz, if_pos hz, ofI_take l j hj, if_neg (by omega)]
      rfl
    · rw [if_neg hz, if_neg hz]
theorem ofI_take_le (l : List Amt) (j i : Nat) : ofI (l.take j) i ≤ ofI l i := by
  conv => rhs; rw [← List.take_append_drop j l, ofI_append]
  omega

theorem MapZ.mono {w : World} {b n n' : Nat} {f : Int → Int} (h : MapZ w b n f) (hn : n ≤ n') : MapZ w b n' f := by
  obtain ⟨D, h, hD⟩ := h
  exact ⟨D, h.mono hn, hD⟩
set_option maxHeartbeats 2000000 in
set_option maxRecDepth 100000 in
theorem contains_any (v v2 : Value) (lt lb : List Amt) (n : Nat) (w : World) (h : AmtsAt w v lt) (h' : AmtsAt w v2 lb) (hg : GoodL n 1000 2 lt) (hg' : GoodL n 1000 2 lb) (hn : n ≤ 1000) (hin : ∀ i, ofI lb i ≤ ofI lt i) :
    Calls Tryz.prog 76 #[v, v2] w fun e w' => e = .returned (.bool true) ∧ Below w.heap.size w w' := by
  have HL := Lib.hid h
  have HL2 := Lib.hid h'
  have HG := Lib.hid hg
  have HG2 := Lib.hid hg'
  have HI := Lib.hid hin
  have hl1 := hg.len
  have hl2 := hg'.len
  have hmk := fun w => @run_makeMap Tryz.prog 144 w
  obtain ⟨a0, c0, rfl, h1, h2⟩ := h.form
  obtain ⟨a2, c2, rfl, h3, h4⟩ := h'.form
  clear h h' hg hg' hin
  go_enter Tryz.func76, Tryz.ntmps76
  go_wp2_with fail
  clear hmk
  go_loopw [17] (fun i wr => ∃ (j : Nat), j ≤ lt.length ∧ i = .int .i64 j ∧ Hid (MapZ wr w.heap.size j (cntF (lt.take j))) ∧ Hid (MapZ wr (w.heap.size + 1) 0 (cntF (lb.take 0))) ∧ Hid (Below w.heap.size w wr)) (fun i _ => lt.length - (intOf i).toNat)
  case atStart =>
    refine ⟨0, by omega, rfl, Lib.hid ?_, Lib.hid ?_, Lib.hid (((Below.refl _ _).alloc (Nat.le_refl _) _).alloc (by simp) _)⟩
    · have h9 := (MapZ.made w).below ((Below.refl _ _).alloc (Nat.le_refl _) (.map #[] 0))
      have : cntF (lt.take 0) = fun _ => 0 := by funext z; simp [cntF, ofI_nil]
      rw [this]
      exact h9
    · have h9 := MapZ.made (w.alloc (.map #[] 0))
      have : cntF (lb.take 0) = fun _ => 0 := by funext z; simp [cntF, ofI_nil]
      rw [this]
      simpa using h9
  case round =>
    obtain ⟨j, hj, rfl, HM, HX, HB⟩ := hrel
    by_cases hlt : j < lt.length
    · obtain ⟨b, cap, hv, hb, c0, c1⟩ := AmtsAt.at_ (HL.out.below HB.out) j hlt
      injection hv with e1 e2 e3
      subst e1
      clear e2 e3
      have hx := HG.out.all lt[j] (List.getElem_mem hlt)
      have HS := Lib.hid (cntF_step lt j hlt)
      have hle := ofI_le HG.out lt[j].item
      have hle2 := ofI_take_le lt j lt[j].item
      have hcn := cntF_nat (lt.take j) lt[j].item
      generalize lt[j] = x at *
      obtain ⟨xi, xn⟩ := x
      simp only [] at c0 c1 hx hle hle2 hcn HS
      have HM5 := Lib.hid (HM.out.below ((Below.refl _ wr).alloc (Nat.le_refl _) (.cells #[.int .i64 (xi : Int), .int .i64 (xn : Int)] 88)))
      have HX5 := Lib.hid (HX.out.below ((Below.refl _ wr).alloc (Nat.le_refl _) (.cells #[.int .i64 (xi : Int), .int .i64 (xn : Int)] 88)))
      have hlook := HM5.out.look (xi : Int) (by omega)
      generalize hz : cntF (lt.take j) (xi : Int) = z at *
      have hz1 : 0 ≤ z ∧ z ≤ 2000 := by omega
      have HZ := Lib.hid hz
      have hwr := HB.out.size
      clear hz hcn hle hle2
      go_wp2_with (at_mapUpdate; refine wpList_setZ rfl _ _ _ rfl (w.heap.size) j _ _ _ rfl rfl rfl HM5.out (by omega) (by omega) (by omega) ?_)
      intro w7 HM7 HO7
      have HM8 : Hid (MapZ w7 (w.heap.size) (j + 1) (cntF (lt.take (j + 1)))) := Lib.hid (by have h9 := HM7.out; rw [← HS.out]; exact h9)
      have HB7 := Lib.hid (HO7.out.below (HB.out.alloc HB.out.size _) (by simp; omega) (fun k hk => by omega))
      have HX7 := Lib.hid (HX5.out.only HO7.out (by omega))
      clear HO7 HM7 hlook
      go_wp2_with fail
      go_roundw
      case rel => exact ⟨j + 1, by omega, by go_num, HM8, HX7, HB7⟩
      case measure => simp [intOf]; omega
    · have HM2 := HM.out
      rw [List.take_of_length_le (show lt.length ≤ j by omega)] at HM2
      have HT := Lib.hid (HM2.mono (show j ≤ 2 by omega))
      have HX1 := HX
      have HB1 := HB
      clear HM2 HM HX HB
      go_wp2_with fail
      clear hj
      obtain ⟨wo, rfl⟩ : ∃ wo : World, wo = wr := ⟨_, rfl⟩
      go_loopw [31] (fun i wr => ∃ (j : Nat), j ≤ lb.length ∧ i = .int .i64 j ∧ Hid (MapZ wr (w.heap.size + 1) j (cntF (lb.take j))) ∧ Hid (MapZ wr w.heap.size 2 (cntF lt)) ∧ Hid (Below w.heap.size w wr)) (fun i _ => lb.length - (intOf i).toNat)
      case atStart => exact ⟨0, by omega, rfl, HX1, HT, HB1⟩
      case round =>
        clear HX1 HT HB1
        obtain ⟨j, hj, rfl, HM, HX, HB⟩ := hrel
        by_cases hlt : j < lb.length
        · obtain ⟨b, cap, hv, hb, c0, c1⟩ := AmtsAt.at_ (HL2.out.below HB.out) j hlt
          injection hv with e1 e2 e3
          subst e1
          clear e2 e3
          have hx := HG2.out.all lb[j] (List.getElem_mem hlt)
          have HS := Lib.hid (cntF_step lb j hlt)
          have hle := ofI_le HG2.out lb[j].item
          have hle2 := ofI_take_le lb j lb[j].item
          have hcn := cntF_nat (lb.take j) lb[j].item
          generalize lb[j] = x at *
          obtain ⟨xi, xn⟩ := x
          simp only [] at c0 c1 hx hle hle2 hcn HS
          have HM5 := Lib.hid (HM.out.below ((Below.refl _ wr).alloc (Nat.le_refl _) (.cells #[.int .i64 (xi : Int), .int .i64 (xn : Int)] 88)))
          have HX5 := Lib.hid (HX.out.below ((Below.refl _ wr).alloc (Nat.le_refl _) (.cells #[.int .i64 (xi : Int), .int .i64 (xn : Int)] 88)))
          have hlook := HM5.out.look (xi : Int) (by omega)
          generalize hz : cntF (lb.take j) (xi : Int) = z at *
          have hz1 : 0 ≤ z ∧ z ≤ 2000 := by omega
          have HZ := Lib.hid hz
          have hwr := HB.out.size
          clear hz hcn hle hle2
          go_wp2_with (at_mapUpdate; refine wpList_setZ rfl _ _ _ rfl (w.heap.size + 1) j _ _ _ rfl rfl rfl HM5.out (by omega) (by omega) (by omega) ?_)
          intro w7 HM7 HO7
          have HM8 : Hid (MapZ w7 (w.heap.size + 1) (j + 1) (cntF (lb.take (j + 1)))) := Lib.hid (by have h9 := HM7.out; rw [← HS.out]; exact h9)
          have HB7 := Lib.hid (HO7.out.below (HB.out.alloc HB.out.size _) (by simp; omega) (fun k hk => by omega))
          have HX7 := Lib.hid (HX5.out.only HO7.out (by omega))
          clear HO7 HM7 hlook
          go_wp2_with fail
          go_roundw
          case rel => exact ⟨j + 1, by omega, by go_num, HM8, HX7, HB7⟩
          case measure => simp [intOf]; omega
        · have HM2 := HM.out
          rw [List.take_of_length_le (show lb.length ≤ j by omega)] at HM2
          have HT := Lib.hid (HM2.mono (show j ≤ 2 by omega))
          have HX1 := HX
          have HB1 := HB
          clear HM2 HM HX HB
          go_wp2_with fail
          clear hj
          obtain ⟨wp, rfl⟩ : ∃ wo : World, wo = wr := ⟨_, rfl⟩
          go_loopw [45] (fun i wr => ∃ (j : Nat), j ≤ lb.length ∧ i = .int .i64 j ∧ Hid (MapZ wr (w.heap.size + 1) 2 (cntF lb)) ∧ Hid (MapZ wr w.heap.size 2 (cntF lt)) ∧ Hid (Below w.heap.size w wr)) (fun i _ => lb.length - (intOf i).toNat)
          case atStart => exact ⟨0, by omega, rfl, HT, HX1, HB1⟩
          case round =>
            clear HX1 HT HB1
            obtain ⟨j, hj, rfl, HM, HX, HB⟩ := hrel
            by_cases hlt : j < lb.length
            · obtain ⟨b, cap, hv, hb, c0, c1⟩ := AmtsAt.at_ (HL2.out.below HB.out) j hlt
              injection hv with e1 e2 e3
              subst e1
              clear e2 e3
              have hx := HG2.out.all lb[j] (List.getElem_mem hlt)
              have hle := HI.out lb[j].item
              have hcn := cntF_nat lb lb[j].item
              have hcm := cntF_nat lt lb[j].item
              generalize lb[j] = x at *
              obtain ⟨xi, xn⟩ := x
              simp only [] at c0 c1 hx hle hcn hcm
              have HM5 := Lib.hid (HM.out.below ((Below.refl _ wr).alloc (Nat.le_refl _) (.cells #[.int .i64 (xi : Int), .int .i64 (xn : Int)] 88)))
              have HX5 := Lib.hid (HX.out.below ((Below.refl _ wr).alloc (Nat.le_refl _) (.cells #[.int .i64 (xi : Int), .int .i64 (xn : Int)] 88)))
              have hlook := HM5.out.look (xi : Int) (by omega)
              have hlook2 := HX5.out.look (xi : Int) (by omega)
              generalize hz : cntF lb (xi : Int) = z at *
              generalize hz2 : cntF lt (xi : Int) = z2 at *
              have hz3 : z ≤ z2 := by omega
              have q1 : decide (z2 < z) = false := by simp; omega
              have hwr := HB.out.size
              clear hz hz2 hcn hcm hle
              go_wp2_with fail
              go_roundw
              case rel => exact ⟨j + 1, by omega, by go_num, HM5, HX5, Lib.hid (HB.out.alloc HB.out.size _)⟩
              case measure => simp [intOf]; omega
            · go_wp2_with fail
              go_ret
              exact ⟨rfl, HB.out⟩
end Go.Proofs.YtfpcgjgkbniofaaGreatDoor
