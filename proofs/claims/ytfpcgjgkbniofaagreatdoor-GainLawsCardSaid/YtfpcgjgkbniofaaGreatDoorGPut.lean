/- The generator's put. -/
import Derived.Test.YtfpcgjgkbniofaaGreatDoorGApp
set_option linter.unusedVariables false
set_option linter.unusedSimpArgs false
namespace Go.Proofs.YtfpcgjgkbniofaaGreatDoor
open Go.RowKit

theorem AmtsAt.at_ {w : World} {v : Value} {l : List Amt} (h : AmtsAt w v l) (j : Nat) (hj : j < l.length) :
    ∃ b cap, v = .slice (some ⟨b, 0, none⟩) l.length cap ∧ b < w.heap.size ∧ w.cell? ⟨b, j * 2, none⟩ = some (.int .i64 (l[j].item : Int)) ∧ w.cell? ⟨b, j * 2 + 1, none⟩ = some (.int .i64 (l[j].n : Int)) := by
  obtain ⟨b, cap, cs, hv, hb, rfl, _, hc⟩ := SliceOf.at_ h j hj
  exact ⟨b, cap, hv, hb, hc 0 (by omega), hc 1 (by omega)⟩

theorem flatMap_snoc (l : List Amt) (a : Amt) : (l ++ [a]).flatMap amtC = l.flatMap amtC ++ amtC a := by simp

theorem putF_step (it k : Nat) (d : Bool) (l : List Amt) (j : Nat) (hj : j < l.length) :
    putF it k d (l.drop j) = if l[j].item = it then ⟨it, l[j].n + k⟩ :: putF it k true (l.drop (j + 1))
    else if it < l[j].item ∧ d = false then ⟨it, k⟩ :: l[j] :: putF it k true (l.drop (j + 1)) else l[j] :: putF it k d (l.drop (j + 1)) := by
  rw [List.drop_eq_getElem_cons hj, putF]

/-- where a row of one's own begins -/
theorem own_nil (w : World) (t : TypeId) : Hid (w.ownsRow w.heap.size t 2 (.slice none 0 0) ([] : List Amt).length (([] : List Amt).flatMap amtC)) := Lib.hid (World.ownsRow_nil _ _ _ _)

def putRel (w : World) (l : List Amt) (it k : Nat) (o d i : Value) (wr : World) : Prop :=
  ∃ (j : Nat) (acc : List Amt) (dn : Bool) (ga : Option Addr) (gc : Nat), j ≤ l.length ∧ acc.length ≤ 2 * j ∧ gc ≤ 9223372036854775807 ∧ i = .int .i64 j ∧ d = .bool dn ∧ o = .slice ga acc.length gc ∧ Hid (wr.ownsRow w.heap.size 88 2 (.slice ga acc.length gc) acc.length (acc.flatMap amtC)) ∧ Hid (acc ++ putF it k dn (l.drop j) = putA l it k) ∧ Hid (Below w.heap.size w wr)

set_option maxHeartbeats 2000000 in
theorem put_any (v : Value) (l : List Amt) (it k : Nat) (w : World) (h : AmtsAt w v l) (hl : l.length ≤ 1000) (hall : ∀ a ∈ l, a.n ≤ 1000000) (hit : it ≤ 1000000) (hk : k ≤ 1000000) :
    Calls Tryz.prog 28 #[v, .int .i64 it, .int .i64 k] w fun e w' => (∃ v', e = .returned v' ∧ AmtsAt w' v' (putA l it k)) ∧ Below w.heap.size w w' := by
  have HL := Lib.hid h
  obtain ⟨a0, c0, rfl, h1, h2⟩ := h.form
  clear h
  go_enter Tryz.func28, Tryz.ntmps28
  go_wp2_with fail
  go_loopw [7, 8, 9] (putRel w l it k) (fun _ _ i _ => l.length - (intOf i).toNat)
  case atStart => exact ⟨0, [], false, none, 0, by omega, by simp, by omega, rfl, rfl, rfl, own_nil _ _, Lib.hid (by simp [putA]), Lib.hid (Below.refl _ _)⟩
  case round =>
    obtain ⟨j, acc, dn, ga, gc, hj, hacc, hgc, rfl, rfl, rfl, HO, HE, HB⟩ := hrel
    have hwr := HB.out.size
    by_cases hlt : j < l.length
    · obtain ⟨b, cap, hv, hb, hw0, hw1⟩ := HL.out.at_ j hlt
      injection hv with e1 e2 e3
      subst e1
      clear e3 e2
      have hn := hall l[j] (List.getElem_mem hlt)
      have HS := Lib.hid (putF_step it k dn l j hlt)
      have HE2 := HE.out
      rw [HS.out] at HE2
      have HX : Hid (l[j] = ⟨l[j].item, l[j].n⟩) := Lib.hid rfl
      generalize hx : l[j] = x at *
      clear hx
      obtain ⟨xi, xn⟩ := x
      simp only [] at hw0 hw1 hn HE2
      have HW0 := Lib.hid hw0
      have HW1 := Lib.hid hw1
      clear hw0 hw1
      have hc0 := (HB.out.cell (p := ⟨b, j * 2, none⟩) hb).trans HW0.out
      have hc1 := (HB.out.cell (p := ⟨b, j * 2 + 1, none⟩) hb).trans HW1.out
      by_cases hx : xi = it
      · rw [if_pos hx] at HE2
        have hxI : ((xi : Int) == (it : Int)) = true := by simp [hx]
        have HE3 := Lib.hid HE2
        clear HE2 HE HS HX hx
        go_wp2_with (at_builtin; refine wpList_app1 elemAmt rfl _ _ rfl [.int .i64 (it : Int), .int .i64 ((xn : Int) + (k : Int))] 88 _ _ _ rfl rfl rfl (by simp [Value.oneCell']) HO.out HB.out (by have := HB.out.size; omega) (by omega) (by omega) ?_)
        intro g5 cap5 w5 Hown5 HB5 HO5 hcap5 hat5
        have Hown6 : Hid (w5.ownsRow w.heap.size 88 2 (.slice (some ⟨g5, 0, none⟩) (acc ++ [(⟨it, xn + k⟩ : Amt)]).length cap5) (acc ++ [(⟨it, xn + k⟩ : Amt)]).length ((acc ++ [(⟨it, xn + k⟩ : Amt)]).flatMap amtC)) := Lib.hid (by rw [flatMap_snoc, List.length_append]; exact Hown5.out)
        clear Hown5 HO5 hat5
        go_wp2_with fail
        go_roundw
        case rel => exact ⟨j + 1, acc ++ [⟨it, xn + k⟩], true, _, cap5, by omega, by simp; omega, hcap5, by go_num, rfl, by simp, Hown6, Lib.hid (by rw [← HE3.out]; simp), HB5⟩
        case measure => simp [intOf]; omega
      · rw [if_neg hx] at HE2
        have hxI : ((xi : Int) == (it : Int)) = false := by simp; omega
        by_cases hy : it < xi ∧ dn = false
        · rw [if_pos hy] at HE2
          obtain ⟨hy1, rfl⟩ := hy
          have hyI : decide ((it : Int) < (xi : Int)) = true := by simp; omega
          have HE3 := Lib.hid HE2
          clear HE2 HE HS HX hx
          go_wp2_with (at_builtin; refine wpList_app1 elemAmt rfl _ _ rfl [.int .i64 (it : Int), .int .i64 (k : Int)] 88 _ _ _ rfl rfl rfl (by simp [Value.oneCell']) HO.out HB.out (by have := HB.out.size; omega) (by omega) (by omega) ?_)
          intro g5 cap5 w5 Hown5 HB5 HO5 hcap5 hat5
          have Hown6 : Hid (w5.ownsRow w.heap.size 88 2 (.slice (some ⟨g5, 0, none⟩) (acc ++ [(⟨it, k⟩ : Amt)]).length cap5) (acc ++ [(⟨it, k⟩ : Amt)]).length ((acc ++ [(⟨it, k⟩ : Amt)]).flatMap amtC)) := Lib.hid (by rw [flatMap_snoc, List.length_append]; exact Hown5.out)
          clear Hown5 HO5 hat5
          clear hc0 hc1
          have hc0 := (HB5.out.cell (p := ⟨b, j * 2, none⟩) hb).trans HW0.out
          have hc1 := (HB5.out.cell (p := ⟨b, j * 2 + 1, none⟩) hb).trans HW1.out
          have hacc6 : (acc ++ [(⟨it, k⟩ : Amt)]).length = acc.length + 1 := by simp
          have HO := Hown6
          have HB := HB5
          rw [hacc6] at HO
          clear Hown6 HB5 hyI
          have hwr := HB.out.size
          go_wp2_with (at_builtin; refine wpList_app1 elemAmt rfl _ _ rfl [.int .i64 (xi : Int), .int .i64 (xn : Int)] 88 _ _ _ rfl rfl rfl (by simp [Value.oneCell']) HO.out HB.out (by have := HB.out.size; omega) (by omega) (by omega) ?_)
          intro g6 cap6 w6 Hown5 HB5 HO5 hcap6 hat5
          have Hown6 : Hid (w6.ownsRow w.heap.size 88 2 (.slice (some ⟨g6, 0, none⟩) (acc ++ [(⟨it, k⟩ : Amt)] ++ [(⟨xi, xn⟩ : Amt)]).length cap6) (acc ++ [(⟨it, k⟩ : Amt)] ++ [(⟨xi, xn⟩ : Amt)]).length ((acc ++ [(⟨it, k⟩ : Amt)] ++ [(⟨xi, xn⟩ : Amt)]).flatMap amtC)) := Lib.hid (by have h9 := Hown5.out; simpa [amtC, zv, List.append_assoc, Nat.add_assoc] using h9)
          clear Hown5 HO5 hat5
          go_wp2_with fail
          go_roundw
          case rel => exact ⟨j + 1, acc ++ [⟨it, k⟩] ++ [⟨xi, xn⟩], true, _, cap6, by omega, by simp; omega, hcap6, by go_num, rfl, by simp, Hown6, Lib.hid (by rw [← HE3.out]; simp), HB5⟩
          case measure => simp [intOf]; omega
        · rw [if_neg hy] at HE2
          have HE3 := Lib.hid HE2
          clear HE2 HE HS HX hx
          by_cases hy1 : it < xi
          · have hdn : dn = true := by cases dn <;> simp_all
            subst hdn
            have hyI : decide ((it : Int) < (xi : Int)) = true := by simp; omega
            clear hy
            go_wp2_with (at_builtin; refine wpList_app1 elemAmt rfl _ _ rfl [.int .i64 (xi : Int), .int .i64 (xn : Int)] 88 _ _ _ rfl rfl rfl (by simp [Value.oneCell']) HO.out HB.out (by have := HB.out.size; omega) (by omega) (by omega) ?_)
            intro g5 cap5 w5 Hown5 HB5 HO5 hcap5 hat5
            have Hown6 : Hid (w5.ownsRow w.heap.size 88 2 (.slice (some ⟨g5, 0, none⟩) (acc ++ [(⟨xi, xn⟩ : Amt)]).length cap5) (acc ++ [(⟨xi, xn⟩ : Amt)]).length ((acc ++ [(⟨xi, xn⟩ : Amt)]).flatMap amtC)) := Lib.hid (by rw [flatMap_snoc, List.length_append]; exact Hown5.out)
            clear Hown5 HO5 hat5
            go_wp2_with fail
            go_roundw
            case rel => exact ⟨j + 1, acc ++ [⟨xi, xn⟩], true, _, cap5, by omega, by simp; omega, hcap5, by go_num, rfl, by simp, Hown6, Lib.hid (by rw [← HE3.out]; simp), HB5⟩
            case measure => simp [intOf]; omega
          · have hyI : decide ((it : Int) < (xi : Int)) = false := by simp; omega
            clear hy
            go_wp2_with (at_builtin; refine wpList_app1 elemAmt rfl _ _ rfl [.int .i64 (xi : Int), .int .i64 (xn : Int)] 88 _ _ _ rfl rfl rfl (by simp [Value.oneCell']) HO.out HB.out (by have := HB.out.size; omega) (by omega) (by omega) ?_)
            intro g5 cap5 w5 Hown5 HB5 HO5 hcap5 hat5
            have Hown6 : Hid (w5.ownsRow w.heap.size 88 2 (.slice (some ⟨g5, 0, none⟩) (acc ++ [(⟨xi, xn⟩ : Amt)]).length cap5) (acc ++ [(⟨xi, xn⟩ : Amt)]).length ((acc ++ [(⟨xi, xn⟩ : Amt)]).flatMap amtC)) := Lib.hid (by rw [flatMap_snoc, List.length_append]; exact Hown5.out)
            clear Hown5 HO5 hat5
            go_wp2_with fail
            go_roundw
            case rel => exact ⟨j + 1, acc ++ [⟨xi, xn⟩], dn, _, cap5, by omega, by simp; omega, hcap5, by go_num, rfl, by simp, Hown6, Lib.hid (by rw [← HE3.out]; simp), HB5⟩
            case measure => simp [intOf]; omega
    · have HE2 := HE.out
      rw [List.drop_of_length_le (by omega)] at HE2
      cases dn with
      | true =>
        go_wp2_with fail
        go_ret
        refine ⟨⟨_, rfl, ?_⟩, HB.out⟩
        rw [← HE2]
        simp only [putF, if_true, List.append_nil]
        exact amts_of_own HO.out
      | false =>
        have HE3 := Lib.hid HE2
        clear HE2 HE
        go_wp2_with (at_builtin; refine wpList_app1 elemAmt rfl _ _ rfl [.int .i64 (it : Int), .int .i64 (k : Int)] 88 _ _ _ rfl rfl rfl (by simp [Value.oneCell']) HO.out HB.out (by have := HB.out.size; omega) (by omega) (by omega) ?_)
        intro g5 cap5 w5 Hown5 HB5 HO5 hcap5 hat5
        have Hown6 : Hid (w5.ownsRow w.heap.size 88 2 (.slice (some ⟨g5, 0, none⟩) (acc ++ [(⟨it, k⟩ : Amt)]).length cap5) (acc ++ [(⟨it, k⟩ : Amt)]).length ((acc ++ [(⟨it, k⟩ : Amt)]).flatMap amtC)) := Lib.hid (by rw [flatMap_snoc, List.length_append]; exact Hown5.out)
        clear Hown5 HO5 hat5
        go_wp2_with fail
        go_ret
        refine ⟨⟨_, rfl, ?_⟩, HB5.out⟩
        rw [← HE3.out]
        have := amts_of_own Hown6.out
        simpa [putF] using this
end Go.Proofs.YtfpcgjgkbniofaaGreatDoor
