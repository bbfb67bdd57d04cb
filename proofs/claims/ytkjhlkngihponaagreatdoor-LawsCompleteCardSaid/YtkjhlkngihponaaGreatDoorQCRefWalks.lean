/- Walks of the reference's small functions: class, skip, end, value, Around. -/
import Derived.Test.YtkjhlkngihponaaGreatDoorQCWDivide
import Derived.Maps.OwnSet
import Derived.Maps.Views
import Derived.WalkArith
import Derived.RangeFuncNested
import Derived.RangeFuncBound
import Derived.RangeFuncCalls
import Derived.RangeFuncLeaves
import Derived.Shelf.Abstract
import Derived.Shelf.RegionOpen
import Derived.WalkKit
import Derived.OwnWalkIn
import Derived.TacticsInMore
import Derived.LoopNIn
import Derived.LoopIn
import Derived.Test.YtkjhlkngihponaaGreatDoorProg
import Derived.Test.YtkjhlkngihponaaGreatDoorQCLYMat
import Derived.WalkSpells
import Derived.WalkLawsBesides
import Derived.Lib.Hide
set_option linter.unusedVariables false
set_option linter.unusedSimpArgs false
set_option maxHeartbeats 2000000
set_option maxRecDepth 100000
namespace Go.Proofs.YtkjhlkngihponaaGreatDoor
open Go.RowKit
theorem qAq.at_ {w : World} {v : Value} {l : List Amt} (h : qAq w v l) (j : Nat) (hj : j < l.length) :
 ∃ b cap, v = .slice (some ⟨b, 0, none⟩) l.length cap /\ b < w.heap.size /\ w.cell? ⟨b, j * 2, none⟩ = some (.int .i64 (l[j].item : Int)) /\ w.cell? ⟨b, j * 2 + 1, none⟩ = some (.int .i64 (l[j].n : Int)) := by
 obtain ⟨b, cap, cs, hv, hb, rfl, _, hc⟩ := qAc.at_ h j hj; exact ⟨b, cap, hv, hb, hc 0 (by omega), hc 1 (by omega)⟩
theorem qBw (l : List Amt) (a : Amt) : (l ++ [a]).flatMap qEm = l.flatMap qEm ++ qEm a := by simp
theorem qLu (it k : Nat) (d : Bool) (l : List Amt) (j : Nat) (hj : j < l.length) :
 qC3 it k d (l.drop j) = if l[j].item = it then ⟨it, l[j].n + k⟩ :: qC3 it k true (l.drop (j + 1))
 else if it < l[j].item /\ d = false then ⟨it, k⟩ :: l[j] :: qC3 it k true (l.drop (j + 1)) else l[j] :: qC3 it k d (l.drop (j + 1)) := by
 rw [List.drop_eq_getElem_cons hj, qC3]
theorem qON (w : World) (t : TypeId) : Hid (w.ownsRow w.heap.size t 2 (.slice none 0 0) ([] : List Amt).length (([] : List Amt).flatMap qEm)) := hZ (World.ownsRow_nil _ _ _ _)
def qPU (w : World) (l : List Amt) (it k : Nat) (o d i : Value) (wr : World) : Prop :=
 ∃ (j : Nat) (acc : List Amt) (dn : Bool) (ga : Option Addr) (gc : Nat), j <= l.length /\ acc.length <= 2 * j /\ gc <= 9223372036854775807 /\ i = .int .i64 j /\ d = .bool dn /\ o = .slice ga acc.length gc /\ Hid (wr.ownsRow w.heap.size 108 2 (.slice ga acc.length gc) acc.length (acc.flatMap qEm)) /\ Hid (acc ++ qC3 it k dn (l.drop j) = qLv l it k) /\ Hid (Below w.heap.size w wr)
theorem qGk (v : Value) (l : List Amt) (it k : Nat) (w : World) (h : qAq w v l) (hl : l.length <= 1000) (hall : ∀ a ∈ l, a.n <= 1000000) (hit : it <= 1000000) (hk : k <= 1000000) :
 Calls Tryz.prog 37 #[v, .int .i64 it, .int .i64 k] w fun e w' => (∃ v', e = .returned v' /\ qAq w' v' (qLv l it k)) /\ Below w.heap.size w w' := by
 have HL := hZ h; obtain ⟨a0, c0, rfl, h1, h2⟩ := h.form; clear h
 go_enter Tryz.func37, Tryz.ntmps37
 go_wp2_with fail
 go_loopw [7, 8, 9] (qPU w l it k) (fun _ _ i _ => l.length - (intOf i).toNat)
 case atStart => exact ⟨0, [], false, none, 0, by omega, by simp, by omega, rfl, rfl, rfl, qON _ _, hZ (by simp [qLv]), hZ (Below.refl _ _)⟩
 case round =>
  obtain ⟨j, acc, dn, ga, gc, hj, hacc, hgc, rfl, rfl, rfl, HO, HE, HB⟩ := hrel; have hwr := HB.o.size; by_cases hlt : j < l.length
  ·obtain ⟨b, cap, hv, hb, hw0, hw1⟩ := HL.o.at_ j hlt
   injection hv with e1 e2 e3; subst e1; clear e3 e2; have hn := hall l[j] (List.getElem_mem hlt); have HS := hZ (qLu it k dn l j hlt); have HE2 := HE.o; rw [HS.o] at HE2; have HX : Hid (l[j] = ⟨l[j].item, l[j].n⟩) := hZ rfl; generalize hx : l[j] = x at *; clear hx; obtain ⟨xi, xn⟩ := x; simp only [] at hw0 hw1 hn HE2; have HW0 := hZ hw0; have HW1 := hZ hw1; clear hw0 hw1; have hc0 := (HB.o.cell (p := ⟨b, j * 2, none⟩) hb).trans HW0.o; have hc1 := (HB.o.cell (p := ⟨b, j * 2 + 1, none⟩) hb).trans HW1.o; by_cases hx : xi = it
   ·rw [if_pos hx] at HE2
    have hxI : ((xi : Int) == (it : Int)) = true := by simp [hx]
    have HE3 := hZ HE2; clear HE2 HE HS HX hx
    go_wp2_with (at_builtin; refine qAw qD2 rfl _ _ rfl [.int .i64 (it : Int), .int .i64 ((xn : Int) + (k : Int))] 108 _ _ _ rfl rfl rfl (by simp [Value.oneCell']) HO.o HB.o (by have := HB.o.size; omega) (by omega) (by omega) ?_)
    intro g5 cap5 w5 Hown5 HB5 HO5 hcap5 hat5; have Hown6 : Hid (w5.ownsRow w.heap.size 108 2 (.slice (some ⟨g5, 0, none⟩) (acc ++ [(⟨it, xn + k⟩ : Amt)]).length cap5) (acc ++ [(⟨it, xn + k⟩ : Amt)]).length ((acc ++ [(⟨it, xn + k⟩ : Amt)]).flatMap qEm)) := hZ (by rw [qBw, List.length_append]; exact Hown5.o); clear Hown5 HO5 hat5
    go_wp2_with fail
    go_roundw
    case rel => exact ⟨j + 1, acc ++ [⟨it, xn + k⟩], true, _, cap5, by omega, by simp; omega, hcap5, by go_num, rfl, by simp, Hown6, hZ (by rw [<- HE3.o]; simp), HB5⟩
    case measure => simp [intOf]; omega
   ·rw [if_neg hx] at HE2
    have hxI : ((xi : Int) == (it : Int)) = false := by simp; omega
    by_cases hy : it < xi /\ dn = false
    ·rw [if_pos hy] at HE2
     obtain ⟨hy1, rfl⟩ := hy; have hyI : decide ((it : Int) < (xi : Int)) = true := by simp; omega
     have HE3 := hZ HE2; clear HE2 HE HS HX hx
     go_wp2_with (at_builtin; refine qAw qD2 rfl _ _ rfl [.int .i64 (it : Int), .int .i64 (k : Int)] 108 _ _ _ rfl rfl rfl (by simp [Value.oneCell']) HO.o HB.o (by have := HB.o.size; omega) (by omega) (by omega) ?_)
     intro g5 cap5 w5 Hown5 HB5 HO5 hcap5 hat5; have Hown6 : Hid (w5.ownsRow w.heap.size 108 2 (.slice (some ⟨g5, 0, none⟩) (acc ++ [(⟨it, k⟩ : Amt)]).length cap5) (acc ++ [(⟨it, k⟩ : Amt)]).length ((acc ++ [(⟨it, k⟩ : Amt)]).flatMap qEm)) := hZ (by rw [qBw, List.length_append]; exact Hown5.o); clear Hown5 HO5 hat5; clear hc0 hc1; have hc0 := (HB5.o.cell (p := ⟨b, j * 2, none⟩) hb).trans HW0.o; have hc1 := (HB5.o.cell (p := ⟨b, j * 2 + 1, none⟩) hb).trans HW1.o; have hacc6 : (acc ++ [(⟨it, k⟩ : Amt)]).length = acc.length + 1 := by simp
     have HO := Hown6; have HB := HB5; rw [hacc6] at HO; clear Hown6 HB5 hyI; have hwr := HB.o.size
     go_wp2_with (at_builtin; refine qAw qD2 rfl _ _ rfl [.int .i64 (xi : Int), .int .i64 (xn : Int)] 108 _ _ _ rfl rfl rfl (by simp [Value.oneCell']) HO.o HB.o (by have := HB.o.size; omega) (by omega) (by omega) ?_)
     intro g6 cap6 w6 Hown5 HB5 HO5 hcap6 hat5; have Hown6 : Hid (w6.ownsRow w.heap.size 108 2 (.slice (some ⟨g6, 0, none⟩) (acc ++ [(⟨it, k⟩ : Amt)] ++ [(⟨xi, xn⟩ : Amt)]).length cap6) (acc ++ [(⟨it, k⟩ : Amt)] ++ [(⟨xi, xn⟩ : Amt)]).length ((acc ++ [(⟨it, k⟩ : Amt)] ++ [(⟨xi, xn⟩ : Amt)]).flatMap qEm)) := hZ (by have h9 := Hown5.o; simpa [qEm, zv, List.append_assoc, Nat.add_assoc] using h9); clear Hown5 HO5 hat5
     go_wp2_with fail
     go_roundw
     case rel => exact ⟨j + 1, acc ++ [⟨it, k⟩] ++ [⟨xi, xn⟩], true, _, cap6, by omega, by simp; omega, hcap6, by go_num, rfl, by simp, Hown6, hZ (by rw [<- HE3.o]; simp), HB5⟩
     case measure => simp [intOf]; omega
    ·rw [if_neg hy] at HE2
     have HE3 := hZ HE2; clear HE2 HE HS HX hx; by_cases hy1 : it < xi
     ·have hdn : dn = true := by cases dn <;> simp_all
      subst hdn; have hyI : decide ((it : Int) < (xi : Int)) = true := by simp; omega
      clear hy
      go_wp2_with (at_builtin; refine qAw qD2 rfl _ _ rfl [.int .i64 (xi : Int), .int .i64 (xn : Int)] 108 _ _ _ rfl rfl rfl (by simp [Value.oneCell']) HO.o HB.o (by have := HB.o.size; omega) (by omega) (by omega) ?_)
      intro g5 cap5 w5 Hown5 HB5 HO5 hcap5 hat5; have Hown6 : Hid (w5.ownsRow w.heap.size 108 2 (.slice (some ⟨g5, 0, none⟩) (acc ++ [(⟨xi, xn⟩ : Amt)]).length cap5) (acc ++ [(⟨xi, xn⟩ : Amt)]).length ((acc ++ [(⟨xi, xn⟩ : Amt)]).flatMap qEm)) := hZ (by rw [qBw, List.length_append]; exact Hown5.o); clear Hown5 HO5 hat5
      go_wp2_with fail
      go_roundw
      case rel => exact ⟨j + 1, acc ++ [⟨xi, xn⟩], true, _, cap5, by omega, by simp; omega, hcap5, by go_num, rfl, by simp, Hown6, hZ (by rw [<- HE3.o]; simp), HB5⟩
      case measure => simp [intOf]; omega
     ·have hyI : decide ((it : Int) < (xi : Int)) = false := by simp; omega
      clear hy
      go_wp2_with (at_builtin; refine qAw qD2 rfl _ _ rfl [.int .i64 (xi : Int), .int .i64 (xn : Int)] 108 _ _ _ rfl rfl rfl (by simp [Value.oneCell']) HO.o HB.o (by have := HB.o.size; omega) (by omega) (by omega) ?_)
      intro g5 cap5 w5 Hown5 HB5 HO5 hcap5 hat5; have Hown6 : Hid (w5.ownsRow w.heap.size 108 2 (.slice (some ⟨g5, 0, none⟩) (acc ++ [(⟨xi, xn⟩ : Amt)]).length cap5) (acc ++ [(⟨xi, xn⟩ : Amt)]).length ((acc ++ [(⟨xi, xn⟩ : Amt)]).flatMap qEm)) := hZ (by rw [qBw, List.length_append]; exact Hown5.o); clear Hown5 HO5 hat5
      go_wp2_with fail
      go_roundw
      case rel => exact ⟨j + 1, acc ++ [⟨xi, xn⟩], dn, _, cap5, by omega, by simp; omega, hcap5, by go_num, rfl, by simp, Hown6, hZ (by rw [<- HE3.o]; simp), HB5⟩
      case measure => simp [intOf]; omega
  ·have HE2 := HE.o
   rw [List.drop_of_length_le (by omega)] at HE2; cases dn with
   | true =>
    go_wp2_with fail
    go_ret; refine ⟨⟨_, rfl, ?_⟩, HB.o⟩; rw [<- HE2]; simp only [qC3, if_true, List.append_nil]; exact qFu HO.o
   | false =>
    have HE3 := hZ HE2; clear HE2 HE
    go_wp2_with (at_builtin; refine qAw qD2 rfl _ _ rfl [.int .i64 (it : Int), .int .i64 (k : Int)] 108 _ _ _ rfl rfl rfl (by simp [Value.oneCell']) HO.o HB.o (by have := HB.o.size; omega) (by omega) (by omega) ?_)
    intro g5 cap5 w5 Hown5 HB5 HO5 hcap5 hat5; have Hown6 : Hid (w5.ownsRow w.heap.size 108 2 (.slice (some ⟨g5, 0, none⟩) (acc ++ [(⟨it, k⟩ : Amt)]).length cap5) (acc ++ [(⟨it, k⟩ : Amt)]).length ((acc ++ [(⟨it, k⟩ : Amt)]).flatMap qEm)) := hZ (by rw [qBw, List.length_append]; exact Hown5.o); clear Hown5 HO5 hat5
    go_wp2_with fail
    go_ret; refine ⟨⟨_, rfl, ?_⟩, HB5.o⟩; rw [<- HE3.o]; have := qFu Hown6.o; simpa [qC3] using this
structure Pl where
 at_ : Option Addr
 ct : Nat
 ag : Option Addr
 cg : Nat
 ab : Option Addr
 cb : Nat
def qHa (r : Rul) (p : Pl) : Value := .agg #[.string ⟨r.name.toArray⟩, .bool r.spawn, .int .i64 0, .int .i64 r.time, .int .i64 1, .int .i64 r.of_, .slice p.at_ r.take.length p.ct, .slice p.ag r.give.length p.cg, .slice p.ab r.back.length p.cb]
def qL4 (n : Tx) : Value := .agg #[.string ⟨n.toArray⟩, .bool false, .bool false, .bool false, .int .i64 0, .int .i64 0, .int .i64 0]
def qQs (a : Amt) : Value := .agg #[.int .i64 a.item, .int .i64 a.n]
def qCB (vi vr : Value) : Value := .agg #[vi, vr, .slice none 0 0, .slice none 0 0]
structure qFN (w : World) (r : Rul) (p : Pl) : Prop where
 take : qAq w (.slice p.at_ r.take.length p.ct) r.take
 give : qAq w (.slice p.ag r.give.length p.cg) r.give
 back : qAq w (.slice p.ab r.back.length p.cb) r.back
 t1 : r.take.length <= p.ct /\ p.ct <= 9223372036854775807
 g1 : r.give.length <= p.cg /\ p.cg <= 9223372036854775807
 b1 : r.back.length <= p.cb /\ p.cb <= 9223372036854775807
theorem qFN.below {w w' : World} {r : Rul} {p : Pl} (h : qFN w r p) (hb : Below w.heap.size w w') : qFN w' r p := ⟨h.take.below hb, h.give.below hb, h.back.below hb, h.t1, h.g1, h.b1⟩
structure qCY (w : World) (b o : Nat) (r : Rul) (p : Pl) : Prop where
 c0 : w.cell? ⟨b, o, none⟩ = some (.string ⟨r.name.toArray⟩)
 c1 : w.cell? ⟨b, o + 1, none⟩ = some (.bool r.spawn)
 c2 : w.cell? ⟨b, o + 2, none⟩ = some (.int .i64 0)
 c3 : w.cell? ⟨b, o + 3, none⟩ = some (.int .i64 r.time)
 c4 : w.cell? ⟨b, o + 4, none⟩ = some (.int .i64 1)
 c5 : w.cell? ⟨b, o + 5, none⟩ = some (.int .i64 r.of_)
 c6 : w.cell? ⟨b, o + 6, none⟩ = some (.slice p.at_ r.take.length p.ct)
 c7 : w.cell? ⟨b, o + 7, none⟩ = some (.slice p.ag r.give.length p.cg)
 c8 : w.cell? ⟨b, o + 8, none⟩ = some (.slice p.ab r.back.length p.cb)
theorem qCY.below {w w' : World} {b o : Nat} {r : Rul} {p : Pl} {B : Nat} (h : qCY w b o r p) (hb : Below B w w') (hl : b < B) : qCY w' b o r p :=
 ⟨(hb.cell (p := ⟨b, o, none⟩) hl).trans h.c0, (hb.cell (p := ⟨b, o + 1, none⟩) hl).trans h.c1, (hb.cell (p := ⟨b, o + 2, none⟩) hl).trans h.c2, (hb.cell (p := ⟨b, o + 3, none⟩) hl).trans h.c3, (hb.cell (p := ⟨b, o + 4, none⟩) hl).trans h.c4, (hb.cell (p := ⟨b, o + 5, none⟩) hl).trans h.c5, (hb.cell (p := ⟨b, o + 6, none⟩) hl).trans h.c6, (hb.cell (p := ⟨b, o + 7, none⟩) hl).trans h.c7, (hb.cell (p := ⟨b, o + 8, none⟩) hl).trans h.c8⟩
theorem qBS.at_ {w : World} {v : Value} {l : List Rul} (h : qBS w v l) (j : Nat) (hj : j < l.length) :
 ∃ b cap p, v = .slice (some ⟨b, 0, none⟩) l.length cap /\ b < w.heap.size /\ qFN w l[j] p /\ qCY w b (j * 9) l[j] p := by
 obtain ⟨b, cap, cs, hv, hb, ⟨vt, vg, vb, rfl, h1, h2, h3⟩, _, hc⟩ := qAc.at_ h j hj; obtain ⟨at_, ct, rfl, ht⟩ := h1.form; obtain ⟨ag, cg, rfl, hg⟩ := h2.form; obtain ⟨ab, cb, rfl, hb2⟩ := h3.form; exact ⟨b, cap, ⟨at_, ct, ag, cg, ab, cb⟩, hv, hb, ⟨h1, h2, h3, ht, hg, hb2⟩, ⟨hc 0 (by omega), hc 1 (by omega), hc 2 (by omega), hc 3 (by omega), hc 4 (by omega), hc 5 (by omega), hc 6 (by omega), hc 7 (by omega), hc 8 (by omega)⟩⟩
structure qN3 (w : World) (b o : Nat) (n : Tx) : Prop where
 c0 : w.cell? ⟨b, o, none⟩ = some (.string ⟨n.toArray⟩)
 c1 : w.cell? ⟨b, o + 1, none⟩ = some (.bool false)
 c2 : w.cell? ⟨b, o + 2, none⟩ = some (.bool false)
 c3 : w.cell? ⟨b, o + 3, none⟩ = some (.bool false)
 c4 : w.cell? ⟨b, o + 4, none⟩ = some (.int .i64 0)
 c5 : w.cell? ⟨b, o + 5, none⟩ = some (.int .i64 0)
 c6 : w.cell? ⟨b, o + 6, none⟩ = some (.int .i64 0)
theorem qBd.at_ {w : World} {v : Value} {l : List Tx} (h : qBd w v l) (j : Nat) (hj : j < l.length) :
 ∃ b cap, v = .slice (some ⟨b, 0, none⟩) l.length cap /\ b < w.heap.size /\ qN3 w b (j * 7) l[j] := by
 obtain ⟨b, cap, cs, hv, hb, rfl, _, hc⟩ := qAc.at_ h j hj; exact ⟨b, cap, hv, hb, ⟨hc 0 (by omega), hc 1 (by omega), hc 2 (by omega), hc 3 (by omega), hc 4 (by omega), hc 5 (by omega), hc 6 (by omega)⟩⟩
structure qN5 (w : World) (b o : Nat) (a : Amt) : Prop where
 c0 : w.cell? ⟨b, o, none⟩ = some (.int .i64 a.item)
 c1 : w.cell? ⟨b, o + 1, none⟩ = some (.int .i64 a.n)
theorem qAq.at2 {w : World} {v : Value} {l : List Amt} (h : qAq w v l) (j : Nat) (hj : j < l.length) :
 ∃ b cap, v = .slice (some ⟨b, 0, none⟩) l.length cap /\ b < w.heap.size /\ qN5 w b (j * 2) l[j] := by
 obtain ⟨b, cap, hv, hb, h1, h2⟩ := qAq.at_ h j hj; exact ⟨b, cap, hv, hb, ⟨h1, h2⟩⟩
theorem qCU (v : Value) (l : List Rul) (f : Nat) (lb : Array Value) (w : World) (h : qBS w v l) (hl : l.length <= 1000)
 (eg : ∀ args w, (callFunc f args).run Tryz.prog w = .ok (.enter f args) w)
 (hf : ∀ j (hj : j < l.length) p w', Below w.heap.size w w' -> qFN w' l[j] p -> Calls Tryz.prog f (#[qHa l[j] p] ++ lb) w' fun e w'' => e = .returned (.bool true) /\ Below w'.heap.size w' w'') :
 Calls Tryz.prog 70 #[v, .func (.func f) #[] lb] w fun e w' => e = .returned (.bool true) /\ Below w.heap.size w w' := by
 have HL := hZ h; have HF := hZ hf; obtain ⟨a0, c0, rfl, h1, h2⟩ := h.form; clear h hf
 go_enter Tryz.func70, Tryz.ntmps70
 go_wp2_with fail
 go_loopw [9] (fun i wr => ∃ j : Nat, j <= l.length /\ i = .int .i64 j /\ Hid (Below w.heap.size w wr)) (fun i _ => l.length - (intOf i).toNat)
 case atStart => exact ⟨0, by omega, rfl, hZ (Below.refl _ _)⟩
 case round =>
  obtain ⟨j, hj, rfl, HB⟩ := hrel; by_cases hlt : j < l.length
  ·obtain ⟨b, cap, p, hv, hb, hr, hc⟩ := qBS.at_ (HL.o.below HB.o) j hlt
   injection hv with e1 e2 e3; subst e1; clear e2 e3; obtain ⟨c0, c1, c2, c3, c4, c5, c6, c7, c8⟩ := hc; have HR := hZ hr; have HFj := hZ (HF.o j hlt p); clear hr; unfold qHa at HFj; generalize l[j] = x at *
   go_wp2_with fail
   refine (HFj.o _ (HB.o.alloc HB.o.size _) (HR.o.below aR)).mono ?_; rintro e w5 ⟨rfl, hB5⟩; have HB5 := hZ ((HB.o.alloc HB.o.size _).trans (hB5.mono (by simp; have := HB.o.size; omega))); clear hB5
   go_wp2_with fail
   go_roundw
   case rel => exact ⟨j + 1, by omega, by go_num, HB5⟩
   case measure => simp [intOf]; omega
  ·go_wp2_with fail
   go_ret; exact ⟨rfl, HB.o⟩
theorem qD1 (v : Value) (l : List Tx) (f : Nat) (lb : Array Value) (w : World) (h : qBd w v l) (hl : l.length <= 1000)
 (eg : ∀ args w, (callFunc f args).run Tryz.prog w = .ok (.enter f args) w)
 (hf : ∀ j (hj : j < l.length)  w', Below w.heap.size w w' -> Calls Tryz.prog f (#[qL4 l[j]] ++ lb) w' fun e w'' => e = .returned (.bool true) /\ Below w'.heap.size w' w'') :
 Calls Tryz.prog 76 #[v, .func (.func f) #[] lb] w fun e w' => e = .returned (.bool true) /\ Below w.heap.size w w' := by
 have HL := hZ h; have HF := hZ hf; obtain ⟨a0, c0, rfl, h1, h2⟩ := h.form; clear h hf
 go_enter Tryz.func76, Tryz.ntmps76
 go_wp2_with fail
 go_loopw [9] (fun i wr => ∃ j : Nat, j <= l.length /\ i = .int .i64 j /\ Hid (Below w.heap.size w wr)) (fun i _ => l.length - (intOf i).toNat)
 case atStart => exact ⟨0, by omega, rfl, hZ (Below.refl _ _)⟩
 case round =>
  obtain ⟨j, hj, rfl, HB⟩ := hrel; by_cases hlt : j < l.length
  ·obtain ⟨b, cap, hv, hb, hc⟩ := qBd.at_ (HL.o.below HB.o) j hlt
   injection hv with e1 e2 e3; subst e1; clear e2 e3; obtain ⟨c0, c1, c2, c3, c4, c5, c6⟩ := hc
   skip
   have HFj := hZ (HF.o j hlt)
   skip
   unfold qL4 at HFj; generalize l[j] = x at *
   go_wp2_with fail
   refine (HFj.o _ (HB.o.alloc HB.o.size _)).mono ?_; rintro e w5 ⟨rfl, hB5⟩; have HB5 := hZ ((HB.o.alloc HB.o.size _).trans (hB5.mono (by simp; have := HB.o.size; omega))); clear hB5
   go_wp2_with fail
   go_roundw
   case rel => exact ⟨j + 1, by omega, by go_num, HB5⟩
   case measure => simp [intOf]; omega
  ·go_wp2_with fail
   go_ret; exact ⟨rfl, HB.o⟩
theorem qMh (v : Value) (l : List Amt) (f : Nat) (lb : Array Value) (w : World) (h : qAq w v l) (hl : l.length <= 1000)
 (eg : ∀ args w, (callFunc f args).run Tryz.prog w = .ok (.enter f args) w)
 (hf : ∀ j (hj : j < l.length)  w', Below w.heap.size w w' -> Calls Tryz.prog f (#[qQs l[j]] ++ lb) w' fun e w'' => e = .returned (.bool true) /\ Below w'.heap.size w' w'') :
 Calls Tryz.prog 100 #[v, .func (.func f) #[] lb] w fun e w' => e = .returned (.bool true) /\ Below w.heap.size w w' := by
 have HL := hZ h; have HF := hZ hf; obtain ⟨a0, c0, rfl, h1, h2⟩ := h.form; clear h hf
 go_enter Tryz.func100, Tryz.ntmps100
 go_wp2_with fail
 go_loopw [9] (fun i wr => ∃ j : Nat, j <= l.length /\ i = .int .i64 j /\ Hid (Below w.heap.size w wr)) (fun i _ => l.length - (intOf i).toNat)
 case atStart => exact ⟨0, by omega, rfl, hZ (Below.refl _ _)⟩
 case round =>
  obtain ⟨j, hj, rfl, HB⟩ := hrel; by_cases hlt : j < l.length
  ·obtain ⟨b, cap, hv, hb, hc⟩ := qAq.at2 (HL.o.below HB.o) j hlt
   injection hv with e1 e2 e3; subst e1; clear e2 e3; obtain ⟨c0, c1⟩ := hc
   skip
   have HFj := hZ (HF.o j hlt)
   skip
   unfold qQs at HFj; generalize l[j] = x at *
   go_wp2_with fail
   refine (HFj.o _ (HB.o.alloc HB.o.size _)).mono ?_; rintro e w5 ⟨rfl, hB5⟩; have HB5 := hZ ((HB.o.alloc HB.o.size _).trans (hB5.mono (by simp; have := HB.o.size; omega))); clear hB5
   go_wp2_with fail
   go_roundw
   case rel => exact ⟨j + 1, by omega, by go_num, HB5⟩
   case measure => simp [intOf]; omega
  ·go_wp2_with fail
   go_ret; exact ⟨rfl, HB.o⟩
theorem qCs (f : Value) (w : World) : Calls Tryz.prog 72 #[.slice none 0 0, f] w fun e w' => e = .returned (.bool true) /\ w = w' := by
 go_enter Tryz.func72, Tryz.ntmps72
 go_wp2_with fail
 refine wp_loop_rounds 1 ?_; rw [rounds_succ]
 go_wp2_with fail
 go_ret; exact ⟨rfl, rfl⟩
theorem qDC (f : Value) (w : World) : Calls Tryz.prog 74 #[.slice none 0 0, f] w fun e w' => e = .returned (.bool true) /\ w = w' := by
 go_enter Tryz.func74, Tryz.ntmps74
 go_wp2_with fail
 refine wp_loop_rounds 1 ?_; rw [rounds_succ]
 go_wp2_with fail
 go_ret; exact ⟨rfl, rfl⟩
theorem qOq (r : Rul) (p : Pl) (n : Nat) (w : World) (hr : qFN w r p) (hg : qH8 n r) : Calls Tryz.prog 71 #[qHa r p] w fun e w' => e = .returned (.bool true) /\ Below w.heap.size w w' := by
 obtain ⟨rn, rs, rt, ro, lt, lg, lb⟩ := r; have ht := hg.take.len; have hgv := hg.give.len; have hbk := hg.back.len; have ho1 := hg.of1; have ho2 := hg.of2; have htm := hg.time; have hsp := hg.spawn; have hpl := hg.player; have hhb := hg.hasBack; have hc1 := hr.t1; have hc2 := hr.g1; have hc3 := hr.b1; simp only [] at ht hgv hbk ho1 ho2 htm hsp hpl hhb hc1 hc2 hc3; unfold qHa; simp only []; clear hsp hpl hhb; have q1 : decide ((lt.length : Int) + (lg.length : Int) <= 64) = true := by simp; omega
 have q2 : decide ((lt.length : Int) + (lb.length : Int) <= 64) = true := by simp; omega
 go_enter Tryz.func71, Tryz.ntmps71
 go_wp2_with fail
 go_ret; exact ⟨rfl, aR⟩
theorem qFF (r : Rul) (p : Pl) (n : Nat) (w : World) (hr : qFN w r p) (hg : qH8 n r) : Calls Tryz.prog 93 #[qHa r p] w fun e w' => e = .returned (.bool true) /\ Below w.heap.size w w' := by
 obtain ⟨rn, rs, rt, ro, lt, lg, lb⟩ := r; have ht := hg.take.len; have hgv := hg.give.len; have hbk := hg.back.len; have ho1 := hg.of1; have ho2 := hg.of2; have htm := hg.time; have hsp := hg.spawn; have hpl := hg.player; have hhb := hg.hasBack; have hc1 := hr.t1; have hc2 := hr.g1; have hc3 := hr.b1; simp only [] at ht hgv hbk ho1 ho2 htm hsp hpl hhb hc1 hc2 hc3; unfold qHa; simp only []
 go_enter Tryz.func93, Tryz.ntmps93
 by_cases hb0 : lb = []
 ·subst hb0
  cases rs with
  | true =>
   obtain ⟨h1, h2, h3, h4⟩ := hsp rfl; subst h1 h3 h4
   go_wp2_with fail
   go_ret; exact ⟨rfl, aR⟩
  | false =>
   by_cases ht0 : lt = []
   ·have h1 : rt = 1 := (hpl rfl).resolve_left (fun h => h ht0)
    subst ht0 h1; clear hsp hpl hhb
    go_wp2_with fail
    go_ret; exact ⟨rfl, aR⟩
   ·have h1 : 0 < lt.length := List.length_pos_iff.2 ht0
    have q1 : decide (0 < (lt.length : Int)) = true := by simp; omega
    have q2 : decide (0 < lt.length) = true := by simp; omega
    clear hsp hpl hhb
    go_wp2_with fail
    go_ret; exact ⟨rfl, aR⟩
 ·have h1 : 0 < lb.length := List.length_pos_iff.2 hb0
  have h2 := hhb hb0; subst h2; have hrs : rs = false := by
   cases rs with
   | false => rfl
   | true => exact absurd (hsp rfl).2.1 hb0
  subst hrs; have q1 : decide (0 < (lb.length : Int)) = true := by simp; omega
  have q2 : decide (0 < lb.length) = true := by simp; omega
  by_cases ht0 : lt = []
  ·have h3 : rt = 1 := (hpl rfl).resolve_left (fun h => h ht0)
   subst ht0 h3; clear hsp hpl hhb
   go_wp2_with fail
   go_ret; exact ⟨rfl, aR⟩
  ·have h3 : 0 < lt.length := List.length_pos_iff.2 ht0
   have q3 : decide (0 < (lt.length : Int)) = true := by simp; omega
   have q4 : decide (0 < lt.length) = true := by simp; omega
   clear hsp hpl hhb
   go_wp2_with fail
   go_ret; exact ⟨rfl, aR⟩
theorem qEP (r : Rul) (p : Pl) (n : Nat) (w : World) (hr : qFN w r p) (hg : qH8 n r) : Calls Tryz.prog 104 #[qHa r p] w fun e w' => e = .returned (.bool true) /\ Below w.heap.size w w' := by
 obtain ⟨rn, rs, rt, ro, lt, lg, lb⟩ := r; have ht := hg.take.len; have hgv := hg.give.len; have hbk := hg.back.len; have ho1 := hg.of1; have ho2 := hg.of2; have htm := hg.time; have hsp := hg.spawn; have hpl := hg.player; have hhb := hg.hasBack; have hc1 := hr.t1; have hc2 := hr.g1; have hc3 := hr.b1; simp only [] at ht hgv hbk ho1 ho2 htm hsp hpl hhb hc1 hc2 hc3; unfold qHa; simp only []; clear hsp hpl hhb; have q1 : decide ((rt : Int) <= 1000000) = true := by simp; omega
 have q2 : decide (1 <= (ro : Int)) = true := by simp; omega
 have q3 : decide ((ro : Int) <= 1000000) = true := by simp; omega
 have q4 : decide (0 <= (rt : Int)) = true := by simp
 go_enter Tryz.func104, Tryz.ntmps104
 go_wp2_with fail
 go_ret; exact ⟨rfl, aR⟩
theorem qFK (n : Tx) (w : World) : Calls Tryz.prog 91 #[qL4 n] w fun e w' => e = .returned (.bool true) /\ Below w.heap.size w w' := by
 unfold qL4
 go_enter Tryz.func91, Tryz.ntmps91
 go_wp2_with fail
 go_ret; exact ⟨rfl, aR⟩
theorem qE8 (n : Tx) (w : World) : Calls Tryz.prog 102 #[qL4 n] w fun e w' => e = .returned (.bool true) /\ Below w.heap.size w w' := by
 unfold qL4
 go_enter Tryz.func102, Tryz.ntmps102
 go_wp2_with fail
 go_ret; exact ⟨rfl, aR⟩
theorem qFM (a : Amt) (w : World) (h1 : 1 <= a.n) (h2 : a.n <= 1000) : Calls Tryz.prog 101 #[qQs a] w fun e w' => e = .returned (.bool true) /\ Below w.heap.size w w' := by
 unfold qQs; obtain ⟨ai, an⟩ := a; simp only [] at h1 h2 ⊢; have q1 : decide (1 <= (an : Int)) = true := by simp; omega
 have q2 : decide ((an : Int) <= 1099511627776) = true := by simp; omega
 go_enter Tryz.func101, Tryz.ntmps101
 go_wp2_with fail
 go_ret; exact ⟨rfl, aR⟩
theorem qDa (v : Value) (l : List Amt) (n K : Nat) (w : World) (h : qAq w v l) (hg : qA4 n 1000 K l) (hK : K <= 1000) : Calls Tryz.prog 99 #[v] w fun e w' => e = .returned (.bool true) /\ Below w.heap.size w w' := by
 have HE := hZ (qMh v l 101 #[] w h (Nat.le_trans hg.len hK) (fun _ _ => by simp [go_sem]) (fun j hj w' _ => by
  have := hg.all l[j] (List.getElem_mem hj); simpa using qFM l[j] w' this.2.1 this.2.2))
 obtain ⟨a0, c0, rfl, -, -⟩ := h.form; clear h
 go_enter Tryz.func99, Tryz.ntmps99
 go_wp2_with fail
 refine HE.o.mono ?_; rintro e w5 ⟨rfl, hB5⟩; have HB5 := hZ hB5; clear hB5
 go_wp2_with fail
 go_ret; exact ⟨rfl, HB5.o⟩
theorem qDS (v : Value) (l : List Amt) (n K : Nat) (b : Nat) (ai : Option Addr) (ci : Nat) (w : World) (h : qAq w v l) (hg : qA4 n 1000 K l) (hK : K <= 1000) (hc : w.cell? ⟨b, 0, none⟩ = some (.slice ai n ci)) (hb : b < w.heap.size) (hn : n <= 1000) :
 Calls Tryz.prog 90 #[v, .pointer (some ⟨b, 0, none⟩)] w fun e w' => e = .returned (.bool true) /\ Below w.heap.size w w' := by
 have HL := hZ h; have HC := hZ hc; have HG := hZ hg; have hlen := Nat.le_trans hg.len hK; obtain ⟨a0, c0, rfl, h1, h2⟩ := h.form; clear h hc hg
 go_enter Tryz.func90, Tryz.ntmps90
 go_wp2_with fail
 go_loopw [4, 9] (fun m i wr => ∃ (j : Nat) (z : Int), j <= l.length /\ i = .int .i64 j /\ m = .int .i64 z /\ Hid (∀ (h : j < l.length), z < (l[j].item : Int)) /\ Hid (Below w.heap.size w wr)) (fun _ i _ => l.length - (intOf i).toNat)
 case atStart => exact ⟨0, -1, by omega, rfl, rfl, hZ (fun h => by omega), hZ (Below.refl _ _)⟩
 case round =>
  obtain ⟨j, z, hj, rfl, rfl, HZ, HB⟩ := hrel; by_cases hlt : j < l.length
  ·obtain ⟨b2, cap, hv, hb2, c0, c1⟩ := qAq.at_ (HL.o.below HB.o) j hlt
   injection hv with e1 e2 e3; subst e1; clear e2 e3; have hz := HZ.o hlt; have hi := (HG.o.all l[j] (List.getElem_mem hlt)).1; have HN : Hid (∀ h : j + 1 < l.length, (l[j].item : Int) < (l[j + 1].item : Int)) := hZ (fun h => by
    have := List.pairwise_iff_getElem.1 HG.o.sorted j (j + 1) hlt h (by omega); omega)
   have hcb := (HB.o.cell (p := ⟨b, 0, none⟩) hb).trans HC.o; have hwr := HB.o.size; have hbw : b < wr.heap.size := by omega
   generalize l[j] = x at *; obtain ⟨xi, xn⟩ := x; simp only [] at c0 c1 hz hi HN; have q1 : decide ((xi : Int) <= z) = false := by simp; omega
   have q2 : decide ((n : Int) <= (xi : Int)) = false := by simp; omega
   have q3 : decide (n <= xi) = false := by simp; omega
   go_wp2_with fail
   go_roundw
   case rel => exact ⟨j + 1, xi, by omega, by go_num, rfl, HN, hZ (HB.o.alloc HB.o.size _)⟩
   case measure => simp [intOf]; omega
  ·go_wp2_with fail
   go_ret; exact ⟨rfl, HB.o⟩
open Go.RowKit Go.Maps Go.WideMaps
theorem qBf {P : Program} (t k e : TypeId) (kd : IntKind) (n : Int) (ht : P.underlying t = some (.map k e)) (w : World) :
 (Instr.makeMap t (some (.int kd n))).run P w = .ok (.map (some w.heap.size)) (w.alloc (.map #[] 0)) := by
 simp [Instr.makeMap, run_underlying ht]; rfl
def qGU (w : World) (b n : Nat) (S : List Tx) : Prop := ∃ D : DataW Unit, w.ownsMap Tryz.prog 9 (plainElem Tryz.prog 4) b n D /\ ∀ t : Tx, D.atKey (.string t) (.lit (.bool false)) = .lit (.bool (decide (t ∈ S)))
def qD9 (w : World) (b n : Nat) (f : Int -> Int) : Prop := ∃ D : DataW Unit, w.ownsMap Tryz.prog 3 (plainElem Tryz.prog 3) b n D /\ ∀ i : Int, D.atKey (.int .i64 i) (.lit (.int .i64 0)) = .lit (.int .i64 (f i))
theorem qQv (w : World) : (zeroValue 4).run Tryz.prog w = .ok (.bool false) w := by kernel_rfl
theorem qOp (w : World) : (zeroValue 3).run Tryz.prog w = .ok (.int .i64 0) w := by kernel_rfl
theorem qGU.made (w : World) : qGU (w.alloc (.map #[] 0)) w.heap.size 0 [] := ⟨.map [], World.ownsMap_made _ _ _ _, fun t => by simp [DataW.atKey]⟩
theorem qD9.made (w : World) : qD9 (w.alloc (.map #[] 0)) w.heap.size 0 (fun _ => 0) := ⟨.map [], World.ownsMap_made _ _ _ _, fun t => by simp [DataW.atKey]⟩
theorem qGU.only {S : Nat -> Prop} {w w' : World} {b n : Nat} {l : List Tx} (h : qGU w b n l) (ho : qAb S w w') (hS : ¬ S b) : qGU w' b n l := by
 obtain ⟨D, ⟨es, ck, hb, r⟩, hD⟩ := h; exact ⟨D, ⟨es, ck, (ho.block b (Array.getElem?_eq_some_iff.1 hb).1 hS).trans hb, r⟩, hD⟩
theorem qD9.only {S : Nat -> Prop} {w w' : World} {b n : Nat} {f : Int -> Int} (h : qD9 w b n f) (ho : qAb S w w') (hS : ¬ S b) : qD9 w' b n f := by
 obtain ⟨D, ⟨es, ck, hb, r⟩, hD⟩ := h; exact ⟨D, ⟨es, ck, (ho.block b (Array.getElem?_eq_some_iff.1 hb).1 hS).trans hb, r⟩, hD⟩
theorem qGU.below {w w' : World} {b n : Nat} {l : List Tx} (h : qGU w b n l) (hb : Below w.heap.size w w') : qGU w' b n l := h.only (S := fun _ => False) (qAb.of_below hb) (fun h => h)
theorem qD9.below {w w' : World} {b n : Nat} {f : Int -> Int} (h : qD9 w b n f) (hb : Below w.heap.size w w') : qD9 w' b n f := h.only (S := fun _ => False) (qAb.of_below hb) (fun h => h)
theorem qGU.lt {w : World} {b n : Nat} {l : List Tx} (h : qGU w b n l) : b < w.heap.size := by
 obtain ⟨D, h, _⟩ := h; exact h.lt
theorem qD9.lt {w : World} {b n : Nat} {f : Int -> Int} (h : qD9 w b n f) : b < w.heap.size := by
 obtain ⟨D, h, _⟩ := h; exact h.lt
theorem qDu {P : Program} {e : TypeId} (he : P.underlying e = some .bool) {v : Value} {z : DataW Unit × List MemPlace} (h : plainElem P e v = some z) : ∃ x, v = .bool x /\ z = (.lit (.bool x), []) := by
 unfold plainElem at h; rw [he] at h; cases v <;> simp at h
 exact ⟨_, rfl, h.symm⟩
theorem qGU.look {w : World} {b n : Nat} {l : List Tx} (h : qGU w b n l) (x : Tx) (hx : x.length <= 1000) :
 (Instr.lookup 196 (.map (some b)) (.string ⟨x.toArray⟩) false).run Tryz.prog w = .ok (.bool (decide (x ∈ l))) w := by
 obtain ⟨D, ho, hD⟩ := h; obtain ⟨v, ps, hrun, hv⟩ := ho.lookup (string_keyed Tryz.underlying9) Tryz.underlying196 (qQv w) (plainElem_bool Tryz.underlying4 false) (keyOf_string_mk Tryz.underlying9 (s := ⟨x.toArray⟩) (show x.toArray.size <= maxLen by simp; unfold maxLen; omega)); obtain ⟨y, rfl, hy⟩ := qDu Tryz.underlying4 hv; simp only [Prod.mk.injEq] at hy; have h1 := Lit.bool.inj (DataW.lit.inj ((hD x).symm.trans hy.1)); clear hy hv; subst h1; exact hrun
theorem qD9.look {w : World} {b n : Nat} {f : Int -> Int} (h : qD9 w b n f) (x : Int) (hx : -9223372036854775808 <= x /\ x <= 9223372036854775807) :
 (Instr.lookup 197 (.map (some b)) (.int .i64 x) false).run Tryz.prog w = .ok (.int .i64 (f x)) w := by
 obtain ⟨D, ho, hD⟩ := h; obtain ⟨c, hrun, hat, _⟩ := ho.lookup_int (int_keyed Tryz.underlying3) Tryz.underlying197 Tryz.underlying3 (qOp w) (keyOf_int_mk Tryz.underlying3 (WalkArith.wf_i64 hx)); have h1 := (Lit.int.inj (DataW.lit.inj ((hD x).symm.trans hat))).2; clear hat; subst h1; exact hrun
theorem qEE {w : World} {ops : Array Oper} {rest : List Oper} {o : Oper} {a : Act} {Q : Exit -> Act -> World -> Prop} (hg : o.guard = none) (m x v : Operand) (hop : o.op = Op.mapUpdate 196 m x v)
 (b n : Nat) (l : List Tx) (k : Tx) (hm : a.eval m = .map (some b)) (hx : a.eval x = .string ⟨k.toArray⟩) (hv : a.eval v = .bool true) (h : qGU w b n l) (hk : k.length <= 1000) (hn : n <= 1000000)
 (hK : ∀ w', Hid (qGU w' b (n + 1) (k :: l)) -> Hid (qAb (fun c => c = b) w w') -> wpList Tryz.prog ops Q rest (a.put o.dst undef) w') : wpList Tryz.prog ops Q (o :: rest) a w := by
 obtain ⟨D, ho, hD⟩ := h; refine wpList_mapUpdate_own w hg m x v _ hop 9 4 (string_keyed Tryz.underlying9) Tryz.underlying196 _ b n D hm ho (by unfold maxLen; omega) _ _ (.string k) hx hv (keyOf_string_mk Tryz.underlying9 (s := ⟨k.toArray⟩) (show k.toArray.size <= maxLen by simp; unfold maxLen; omega)) _ [] (plainElem_bool Tryz.underlying4 true) ?_; intro w' ho' hgr; refine hK w' (hZ ⟨_, ho', fun t => ?_⟩) (hZ ?_)
 ·by_cases e : t = k
  ·subst e
   rw [atKey_put_same ho.isMap (by simp [WideAt.IsKeyLit])]; simp
  ·rw [atKey_put_other (fun h => e (by injection h)), hD t]
   simp [e]
 ·exact ⟨hgr.os, hgr.tape, hgr.output, hgr.size, fun k hk hne => hgr.block k hk (fun e => hne (by injection e))⟩
theorem qED {w : World} {ops : Array Oper} {rest : List Oper} {o : Oper} {a : Act} {Q : Exit -> Act -> World -> Prop} (hg : o.guard = none) (m x v : Operand) (hop : o.op = Op.mapUpdate 197 m x v)
 (b n : Nat) (f : Int -> Int) (k d : Int) (hm : a.eval m = .map (some b)) (hx : a.eval x = .int .i64 k) (hv : a.eval v = .int .i64 d) (h : qD9 w b n f) (hk : -9223372036854775808 <= k /\ k <= 9223372036854775807) (hd : -9223372036854775808 <= d /\ d <= 9223372036854775807) (hn : n <= 1000000)
 (hK : ∀ w', Hid (qD9 w' b (n + 1) (fun i => if i = k then d else f i)) -> Hid (qAb (fun c => c = b) w w') -> wpList Tryz.prog ops Q rest (a.put o.dst undef) w') : wpList Tryz.prog ops Q (o :: rest) a w := by
 obtain ⟨D, ho, hD⟩ := h; refine wpList_mapUpdate_own w hg m x v _ hop 3 3 (int_keyed Tryz.underlying3) Tryz.underlying197 _ b n D hm ho (by unfold maxLen; omega) _ _ (.int .i64 k) hx hv (keyOf_int_mk Tryz.underlying3 (WalkArith.wf_i64 hk)) _ [] (plainElem_int Tryz.underlying3 (WalkArith.wf_i64 hd)) ?_; intro w' ho' hgr; refine hK w' (hZ ⟨_, ho', fun t => ?_⟩) (hZ ?_)
 ·by_cases e : t = k
  ·subst e
   rw [atKey_put_same ho.isMap (by simp [WideAt.IsKeyLit])]; simp
  ·rw [atKey_put_other (fun h => e (by injection h)), hD t]
   simp [e]
 ·exact ⟨hgr.os, hgr.tape, hgr.output, hgr.size, fun k hk hne => hgr.block k hk (fun e => hne (by injection e))⟩
theorem qG9 (r : Rul) (p : Pl) (w : World) : Calls Tryz.prog 85 #[qHa r p] w fun e w' => e = .returned (.string ⟨(r.name).toArray⟩) /\ Below w.heap.size w w' := by
 unfold qHa
 go_enter Tryz.func85, Tryz.ntmps85
 go_wp2_with fail
 go_ret; exact ⟨rfl, aR⟩
theorem qIY (v : Value) (l : List Rul) (w : World) (h : qBS w v l) (hl : l.length <= 1000) (hn : ∀ x ∈ l, (x.name).length <= 1000) :
 Calls Tryz.prog 84 #[v, .func (.func 85) #[] #[]] w fun e w' => e = .returned (.bool (decide ((l.map (fun x => x.name)).Nodup))) /\ Below w.heap.size w w' := by
 have HL := hZ h; have hmk := fun w => qBf (P := Tryz.prog) 196 9 4 .i64 (l.length : Int) Tryz.underlying196 w; obtain ⟨a0, c0, rfl, h1, h2⟩ := h.form; clear h
 go_enter Tryz.func84, Tryz.ntmps84
 go_wp2_with fail
 clear hmk
 go_loopw [13] (fun i wr => ∃ (j : Nat) (S : List Tx), j <= l.length /\ i = .int .i64 j /\ Hid (qGU wr w.heap.size j S) /\ Hid (∀ t, t ∈ S ↔ t ∈ (l.take j).map (fun x => x.name)) /\ Hid (((l.take j).map (fun x => x.name)).Nodup) /\ Hid (Below w.heap.size w wr)) (fun i _ => l.length - (intOf i).toNat)
 case atStart => exact ⟨0, [], by omega, rfl, hZ (qGU.made w), hZ (by simp), hZ (by simp), hZ aR⟩
 case round =>
  obtain ⟨j, S, hj, rfl, HM, HS, HN, HB⟩ := hrel; by_cases hlt : j < l.length
  ·obtain ⟨b, cap, p, hv, hb, hr, hc⟩ := qBS.at_ (HL.o.below HB.o) j hlt
   injection hv with e1 e2 e3; subst e1; clear e2 e3; obtain ⟨c0, c1, c2, c3, c4, c5, c6, c7, c8⟩ := hc; clear hr; have hx := hn l[j] (List.getElem_mem hlt); have HT : Hid ((l.take (j + 1)).map (fun x => x.name) = (l.take j).map (fun x => x.name) ++ [l[j].name]) := hZ (by rw [List.take_succ_eq_append_getElem hlt, List.map_append]; rfl); have HNo : Hid ((l[j].name) ∈ (l.take j).map (fun x => x.name) -> ¬ (l.map (fun x => x.name)).Nodup) := hZ (fun hm hnd => by
    rw [<- List.take_append_drop (j + 1) l, List.map_append, HT.o] at hnd; have h3 := (List.nodup_append.1 (List.nodup_append.1 hnd).1).2.2; exact h3 _ hm _ (by simp) rfl)
   have HC1 := hZ (qG9 l[j] p); unfold qHa at HC1; generalize l[j] = x at *
   go_wp2_with fail
   refine (HC1.o _).mono ?_; rintro e w5 ⟨rfl, hB5⟩; have HM5 := hZ ((HM.o.below aR).below hB5); have hcell := hB5.cell (p := ⟨wr.heap.size, 0, none⟩) (by simp); have hcell1 := hB5.cell (p := ⟨wr.heap.size, 1, none⟩) (by simp); have hcell2 := hB5.cell (p := ⟨wr.heap.size, 2, none⟩) (by simp); have hcell3 := hB5.cell (p := ⟨wr.heap.size, 3, none⟩) (by simp); have hcell4 := hB5.cell (p := ⟨wr.heap.size, 4, none⟩) (by simp); have hcell5 := hB5.cell (p := ⟨wr.heap.size, 5, none⟩) (by simp); have hcell6 := hB5.cell (p := ⟨wr.heap.size, 6, none⟩) (by simp); have hcell7 := hB5.cell (p := ⟨wr.heap.size, 7, none⟩) (by simp); have hcell8 := hB5.cell (p := ⟨wr.heap.size, 8, none⟩) (by simp); have HB5 := hZ ((HB.o.alloc HB.o.size _).trans (hB5.mono (by simp; have := HB.o.size; omega))); have hw5 : wr.heap.size < w5.heap.size := by have := hB5.size; simp at this; omega
   clear hB5 c0 c1 c2 c3 c4 c5 c6 c7 c8 hb; have hlook := HM5.o.look (x.name) hx; by_cases hin : (x.name) ∈ S
   ·have hd : decide ((x.name) ∈ S) = true := by simpa using hin
    rw [hd] at hlook
    go_wp2_with fail
    go_ret; refine ⟨?_, HB5.o⟩; rw [decide_eq_false (HNo.o ((HS.o _).1 hin))]; rfl
   ·have hd : decide ((x.name) ∈ S) = false := by simpa using hin
    rw [hd] at hlook
    go_wp2_with fail
    refine (HC1.o _).mono ?_; rintro e w6 ⟨rfl, hB6⟩; have HM6 := hZ (HM5.o.below hB6); have HB6 := hZ (HB5.o.trans (hB6.mono HB5.o.size)); clear hB6 hlook
    go_wp2_with (at_mapUpdate; refine qEE rfl _ _ _ rfl w.heap.size j S (x.name) rfl rfl rfl HM6.o hx (by omega) ?_)
    intro w7 HM7 HO7; have HB7 := hZ (HO7.o.below HB6.o HB6.o.size (fun k hk => by omega)); clear HO7
    go_wp2_with fail
    go_roundw
    case rel =>
     refine ⟨j + 1, _, by omega, by go_num, HM7, hZ (fun t => ?_), hZ ?_, HB7⟩
     ·rw [HT.o, List.mem_append, <- HS.o t, List.mem_cons, List.mem_singleton]
      exact Or.comm
     ·rw [HT.o]
      refine List.nodup_append.2 ⟨HN.o, by simp, fun a ha b hb e => ?_⟩; rw [List.mem_singleton] at hb; subst hb e; exact hin ((HS.o _).2 ha)
    case measure => simp [intOf]; omega
  ·have HN2 := HN.o
   rw [List.take_of_length_le (by omega)] at HN2; have HN3 := hZ HN2; clear HN2
   go_wp2_with fail
   go_ret; refine ⟨?_, HB.o⟩; rw [decide_eq_true HN3.o]; rfl
theorem qHw (r : Tx) (w : World) : Calls Tryz.prog 83 #[qL4 r] w fun e w' => e = .returned (.string ⟨(r).toArray⟩) /\ Below w.heap.size w w' := by
 unfold qL4
 go_enter Tryz.func83, Tryz.ntmps83
 go_wp2_with fail
 go_ret; exact ⟨rfl, aR⟩
theorem qIZ (v : Value) (l : List Tx) (w : World) (h : qBd w v l) (hl : l.length <= 1000) (hn : ∀ x ∈ l, (x).length <= 1000) :
 Calls Tryz.prog 82 #[v, .func (.func 83) #[] #[]] w fun e w' => e = .returned (.bool (decide ((l.map (fun x => x)).Nodup))) /\ Below w.heap.size w w' := by
 have HL := hZ h; have hmk := fun w => qBf (P := Tryz.prog) 196 9 4 .i64 (l.length : Int) Tryz.underlying196 w; obtain ⟨a0, c0, rfl, h1, h2⟩ := h.form; clear h
 go_enter Tryz.func82, Tryz.ntmps82
 go_wp2_with fail
 clear hmk
 go_loopw [13] (fun i wr => ∃ (j : Nat) (S : List Tx), j <= l.length /\ i = .int .i64 j /\ Hid (qGU wr w.heap.size j S) /\ Hid (∀ t, t ∈ S ↔ t ∈ (l.take j).map (fun x => x)) /\ Hid (((l.take j).map (fun x => x)).Nodup) /\ Hid (Below w.heap.size w wr)) (fun i _ => l.length - (intOf i).toNat)
 case atStart => exact ⟨0, [], by omega, rfl, hZ (qGU.made w), hZ (by simp), hZ (by simp), hZ aR⟩
 case round =>
  obtain ⟨j, S, hj, rfl, HM, HS, HN, HB⟩ := hrel; by_cases hlt : j < l.length
  ·obtain ⟨b, cap, hv, hb, hc⟩ := qBd.at_ (HL.o.below HB.o) j hlt
   injection hv with e1 e2 e3; subst e1; clear e2 e3; obtain ⟨c0, c1, c2, c3, c4, c5, c6⟩ := hc
   skip
   have hx := hn l[j] (List.getElem_mem hlt); have HT : Hid ((l.take (j + 1)).map (fun x => x) = (l.take j).map (fun x => x) ++ [l[j]]) := hZ (by rw [List.take_succ_eq_append_getElem hlt, List.map_append]; rfl); have HNo : Hid ((l[j]) ∈ (l.take j).map (fun x => x) -> ¬ (l.map (fun x => x)).Nodup) := hZ (fun hm hnd => by
    rw [<- List.take_append_drop (j + 1) l, List.map_append, HT.o] at hnd; have h3 := (List.nodup_append.1 (List.nodup_append.1 hnd).1).2.2; exact h3 _ hm _ (by simp) rfl)
   have HC1 := hZ (qHw l[j]); unfold qL4 at HC1; generalize l[j] = x at *
   go_wp2_with fail
   refine (HC1.o _).mono ?_; rintro e w5 ⟨rfl, hB5⟩; have HM5 := hZ ((HM.o.below aR).below hB5); have hcell := hB5.cell (p := ⟨wr.heap.size, 0, none⟩) (by simp); have hcell1 := hB5.cell (p := ⟨wr.heap.size, 1, none⟩) (by simp); have hcell2 := hB5.cell (p := ⟨wr.heap.size, 2, none⟩) (by simp); have hcell3 := hB5.cell (p := ⟨wr.heap.size, 3, none⟩) (by simp); have hcell4 := hB5.cell (p := ⟨wr.heap.size, 4, none⟩) (by simp); have hcell5 := hB5.cell (p := ⟨wr.heap.size, 5, none⟩) (by simp); have hcell6 := hB5.cell (p := ⟨wr.heap.size, 6, none⟩) (by simp); have HB5 := hZ ((HB.o.alloc HB.o.size _).trans (hB5.mono (by simp; have := HB.o.size; omega))); have hw5 : wr.heap.size < w5.heap.size := by have := hB5.size; simp at this; omega
   clear hB5 c0 c1 c2 c3 c4 c5 c6 hb; have hlook := HM5.o.look (x) hx; by_cases hin : (x) ∈ S
   ·have hd : decide ((x) ∈ S) = true := by simpa using hin
    rw [hd] at hlook
    go_wp2_with fail
    go_ret; refine ⟨?_, HB5.o⟩; rw [decide_eq_false (HNo.o ((HS.o _).1 hin))]; rfl
   ·have hd : decide ((x) ∈ S) = false := by simpa using hin
    rw [hd] at hlook
    go_wp2_with fail
    refine (HC1.o _).mono ?_; rintro e w6 ⟨rfl, hB6⟩; have HM6 := hZ (HM5.o.below hB6); have HB6 := hZ (HB5.o.trans (hB6.mono HB5.o.size)); clear hB6 hlook
    go_wp2_with (at_mapUpdate; refine qEE rfl _ _ _ rfl w.heap.size j S (x) rfl rfl rfl HM6.o hx (by omega) ?_)
    intro w7 HM7 HO7; have HB7 := hZ (HO7.o.below HB6.o HB6.o.size (fun k hk => by omega)); clear HO7
    go_wp2_with fail
    go_roundw
    case rel =>
     refine ⟨j + 1, _, by omega, by go_num, HM7, hZ (fun t => ?_), hZ ?_, HB7⟩
     ·rw [HT.o, List.mem_append, <- HS.o t, List.mem_cons, List.mem_singleton]
      exact Or.comm
     ·rw [HT.o]
      refine List.nodup_append.2 ⟨HN.o, by simp, fun a ha b hb e => ?_⟩; rw [List.mem_singleton] at hb; subst hb e; exact hin ((HS.o _).2 ha)
    case measure => simp [intOf]; omega
  ·have HN2 := HN.o
   rw [List.take_of_length_le (by omega)] at HN2; have HN3 := hZ HN2; clear HN2
   go_wp2_with fail
   go_ret; refine ⟨?_, HB.o⟩; rw [decide_eq_true HN3.o]; rfl
theorem qCw {n M K : Nat} {l : List Amt} (h : qA4 n M K l) (i : Nat) : ofI l i <= K * M := by
 have key : ∀ l : List Amt, (∀ a ∈ l, a.n <= M) -> ofI l i <= l.length * M := by
  intro l
  induction l with
  | nil => intro _; simp [qCo]
  | cons x r ih =>
   intro h; have h1 := ih (fun a ha => h a (by simp [ha])); have h2 := h x (by simp); rw [qJy, List.length_cons, Nat.succ_mul]
   split <;> omega
 exact Nat.le_trans (key l (fun a ha => (h.all a ha).2.2)) (Nat.mul_le_mul_right _ h.len)
def qQa (f : List Nat -> List (List Nat)) : List Nat -> List (List Nat)
 | [] => []
 | x :: r => (f (x :: r)).map (x :: ·) ++ qQa f r
def ext : Nat -> List Nat -> List (List Nat)
 | 0, _ => [[]]
 | m + 1, u => qQa (ext m) u
theorem qEx (l : List Amt) (j : Nat) (hj : j < l.length) (i : Nat) : ofI (l.take (j + 1)) i = ofI (l.take j) i + if l[j].item = i then l[j].n else 0 := by
 rw [List.take_succ_eq_append_getElem hj, qFW, qJy, qCo]; omega
def qFz (l : List Amt) (z : Int) : Int := if 0 <= z then ((ofI l z.toNat : Nat) : Int) else 0
theorem qCW (l : List Amt) (i : Nat) : qFz l (i : Int) = (ofI l i : Nat) := by simp [qFz]
theorem qHS (l : List Amt) (j : Nat) (hj : j < l.length) : (fun i : Int => if i = (l[j].item : Int) then qFz (l.take j) (l[j].item : Int) + (l[j].n : Int) else qFz (l.take j) i) = qFz (l.take (j + 1)) := by
 funext z
 by_cases h : z = (l[j].item : Int)
 ·rw [if_pos h, h, qCW, qCW, qEx l j hj, if_pos rfl]
  omega
 ·rw [if_neg h]
  unfold qFz; by_cases hz : 0 <= z
  ·rw [if_pos hz, if_pos hz, qEx l j hj, if_neg (by omega)]
   rfl
  ·rw [if_neg hz, if_neg hz]
theorem qBr (l : List Amt) (j i : Nat) : ofI (l.take j) i <= ofI l i := by
 conv => rhs; rw [<- List.take_append_drop j l, qFW]
 omega
theorem qD9.mono {w : World} {b n n' : Nat} {f : Int -> Int} (h : qD9 w b n f) (hn : n <= n') : qD9 w b n' f := by
 obtain ⟨D, h, hD⟩ := h; exact ⟨D, h.mono hn, hD⟩
theorem qHP (v v2 : Value) (lt lb : List Amt) (n : Nat) (w : World) (h : qAq w v lt) (h' : qAq w v2 lb) (hg : qA4 n 1000 2 lt) (hg' : qA4 n 1000 2 lb) (hn : n <= 1000) (hin : ∀ i, ofI lb i <= ofI lt i) :
 Calls Tryz.prog 94 #[v, v2] w fun e w' => e = .returned (.bool true) /\ Below w.heap.size w w' := by
 have HL := hZ h; have HL2 := hZ h'; have HG := hZ hg; have HG2 := hZ hg'; have HI := hZ hin; have hl1 := hg.len; have hl2 := hg'.len; have hmk := fun w => @run_makeMap Tryz.prog 197 w; obtain ⟨a0, c0, rfl, h1, h2⟩ := h.form; obtain ⟨a2, c2, rfl, h3, h4⟩ := h'.form; clear h h' hg hg' hin
 go_enter Tryz.func94, Tryz.ntmps94
 go_wp2_with fail
 clear hmk
 go_loopw [17] (fun i wr => ∃ (j : Nat), j <= lt.length /\ i = .int .i64 j /\ Hid (qD9 wr w.heap.size j (qFz (lt.take j))) /\ Hid (qD9 wr (w.heap.size + 1) 0 (qFz (lb.take 0))) /\ Hid (Below w.heap.size w wr)) (fun i _ => lt.length - (intOf i).toNat)
 case atStart =>
  refine ⟨0, by omega, rfl, hZ ?_, hZ ?_, hZ (aR.alloc (by simp) _)⟩
  ·have h9 := (qD9.made w).below ((Below.refl _ _).alloc (Nat.le_refl _) (.map #[] 0))
   have : qFz (lt.take 0) = fun _ => 0 := by funext z; simp [qFz, qCo]
   rw [this]; exact h9
  ·have h9 := qD9.made (w.alloc (.map #[] 0))
   have : qFz (lb.take 0) = fun _ => 0 := by funext z; simp [qFz, qCo]
   rw [this]; simpa using h9
 case round =>
  obtain ⟨j, hj, rfl, HM, HX, HB⟩ := hrel; by_cases hlt : j < lt.length
  ·obtain ⟨b, cap, hv, hb, c0, c1⟩ := qAq.at_ (HL.o.below HB.o) j hlt
   injection hv with e1 e2 e3; subst e1; clear e2 e3; have hx := HG.o.all lt[j] (List.getElem_mem hlt); have HS := hZ (qHS lt j hlt); have hle := qCw HG.o lt[j].item; have hle2 := qBr lt j lt[j].item; have hcn := qCW (lt.take j) lt[j].item; generalize lt[j] = x at *; obtain ⟨xi, xn⟩ := x; simp only [] at c0 c1 hx hle hle2 hcn HS; have HM5 := hZ (HM.o.below ((Below.refl _ wr).alloc (Nat.le_refl _) (.cells #[.int .i64 (xi : Int), .int .i64 (xn : Int)] 108))); have HX5 := hZ (HX.o.below ((Below.refl _ wr).alloc (Nat.le_refl _) (.cells #[.int .i64 (xi : Int), .int .i64 (xn : Int)] 108))); have hlook := HM5.o.look (xi : Int) (by omega); generalize hz : qFz (lt.take j) (xi : Int) = z at *; have hz1 : 0 <= z /\ z <= 2000 := by omega
   have HZ := hZ hz; have hwr := HB.o.size; clear hz hcn hle hle2
   go_wp2_with (at_mapUpdate; refine qED rfl _ _ _ rfl (w.heap.size) j _ _ _ rfl rfl rfl HM5.o (by omega) (by omega) (by omega) ?_)
   intro w7 HM7 HO7; have HM8 : Hid (qD9 w7 (w.heap.size) (j + 1) (qFz (lt.take (j + 1)))) := hZ (by have h9 := HM7.o; rw [<- HS.o]; exact h9); have HB7 := hZ (HO7.o.below (HB.o.alloc HB.o.size _) (by simp; omega) (fun k hk => by omega)); have HX7 := hZ (HX5.o.only HO7.o (by omega)); clear HO7 HM7 hlook
   go_wp2_with fail
   go_roundw
   case rel => exact ⟨j + 1, by omega, by go_num, HM8, HX7, HB7⟩
   case measure => simp [intOf]; omega
  ·have HM2 := HM.o
   rw [List.take_of_length_le (show lt.length <= j by omega)] at HM2; have HT := hZ (HM2.mono (show j <= 2 by omega)); have HX1 := HX; have HB1 := HB; clear HM2 HM HX HB
   go_wp2_with fail
   clear hj; obtain ⟨wo, rfl⟩ := eY wr
   go_loopw [31] (fun i wr => ∃ (j : Nat), j <= lb.length /\ i = .int .i64 j /\ Hid (qD9 wr (w.heap.size + 1) j (qFz (lb.take j))) /\ Hid (qD9 wr w.heap.size 2 (qFz lt)) /\ Hid (Below w.heap.size w wr)) (fun i _ => lb.length - (intOf i).toNat)
   case atStart => exact ⟨0, by omega, rfl, HX1, HT, HB1⟩
   case round =>
    clear HX1 HT HB1; obtain ⟨j, hj, rfl, HM, HX, HB⟩ := hrel; by_cases hlt : j < lb.length
    ·obtain ⟨b, cap, hv, hb, c0, c1⟩ := qAq.at_ (HL2.o.below HB.o) j hlt
     injection hv with e1 e2 e3; subst e1; clear e2 e3; have hx := HG2.o.all lb[j] (List.getElem_mem hlt); have HS := hZ (qHS lb j hlt); have hle := qCw HG2.o lb[j].item; have hle2 := qBr lb j lb[j].item; have hcn := qCW (lb.take j) lb[j].item; generalize lb[j] = x at *; obtain ⟨xi, xn⟩ := x; simp only [] at c0 c1 hx hle hle2 hcn HS; have HM5 := hZ (HM.o.below ((Below.refl _ wr).alloc (Nat.le_refl _) (.cells #[.int .i64 (xi : Int), .int .i64 (xn : Int)] 108))); have HX5 := hZ (HX.o.below ((Below.refl _ wr).alloc (Nat.le_refl _) (.cells #[.int .i64 (xi : Int), .int .i64 (xn : Int)] 108))); have hlook := HM5.o.look (xi : Int) (by omega); generalize hz : qFz (lb.take j) (xi : Int) = z at *; have hz1 : 0 <= z /\ z <= 2000 := by omega
     have HZ := hZ hz; have hwr := HB.o.size; clear hz hcn hle hle2
     go_wp2_with (at_mapUpdate; refine qED rfl _ _ _ rfl (w.heap.size + 1) j _ _ _ rfl rfl rfl HM5.o (by omega) (by omega) (by omega) ?_)
     intro w7 HM7 HO7; have HM8 : Hid (qD9 w7 (w.heap.size + 1) (j + 1) (qFz (lb.take (j + 1)))) := hZ (by have h9 := HM7.o; rw [<- HS.o]; exact h9); have HB7 := hZ (HO7.o.below (HB.o.alloc HB.o.size _) (by simp; omega) (fun k hk => by omega)); have HX7 := hZ (HX5.o.only HO7.o (by omega)); clear HO7 HM7 hlook
     go_wp2_with fail
     go_roundw
     case rel => exact ⟨j + 1, by omega, by go_num, HM8, HX7, HB7⟩
     case measure => simp [intOf]; omega
    ·have HM2 := HM.o
     rw [List.take_of_length_le (show lb.length <= j by omega)] at HM2; have HT := hZ (HM2.mono (show j <= 2 by omega)); have HX1 := HX; have HB1 := HB; clear HM2 HM HX HB
     go_wp2_with fail
     clear hj; obtain ⟨wp, rfl⟩ := eY wr
     go_loopw [45] (fun i wr => ∃ (j : Nat), j <= lb.length /\ i = .int .i64 j /\ Hid (qD9 wr (w.heap.size + 1) 2 (qFz lb)) /\ Hid (qD9 wr w.heap.size 2 (qFz lt)) /\ Hid (Below w.heap.size w wr)) (fun i _ => lb.length - (intOf i).toNat)
     case atStart => exact ⟨0, by omega, rfl, HT, HX1, HB1⟩
     case round =>
      clear HX1 HT HB1; obtain ⟨j, hj, rfl, HM, HX, HB⟩ := hrel; by_cases hlt : j < lb.length
      ·obtain ⟨b, cap, hv, hb, c0, c1⟩ := qAq.at_ (HL2.o.below HB.o) j hlt
       injection hv with e1 e2 e3; subst e1; clear e2 e3; have hx := HG2.o.all lb[j] (List.getElem_mem hlt); have hle := HI.o lb[j].item; have hcn := qCW lb lb[j].item; have hcm := qCW lt lb[j].item; generalize lb[j] = x at *; obtain ⟨xi, xn⟩ := x; simp only [] at c0 c1 hx hle hcn hcm; have HM5 := hZ (HM.o.below ((Below.refl _ wr).alloc (Nat.le_refl _) (.cells #[.int .i64 (xi : Int), .int .i64 (xn : Int)] 108))); have HX5 := hZ (HX.o.below ((Below.refl _ wr).alloc (Nat.le_refl _) (.cells #[.int .i64 (xi : Int), .int .i64 (xn : Int)] 108))); have hlook := HM5.o.look (xi : Int) (by omega); have hlook2 := HX5.o.look (xi : Int) (by omega); generalize hz : qFz lb (xi : Int) = z at *; generalize hz2 : qFz lt (xi : Int) = z2 at *; have hz3 : z <= z2 := by omega
       have q1 : decide (z2 < z) = false := by simp; omega
       have hwr := HB.o.size; clear hz hz2 hcn hcm hle
       go_wp2_with fail
       go_roundw
       case rel => exact ⟨j + 1, by omega, by go_num, HM5, HX5, hZ (HB.o.alloc HB.o.size _)⟩
       case measure => simp [intOf]; omega
      ·go_wp2_with fail
       go_ret; exact ⟨rfl, HB.o⟩
open Go Go.RowKit
def qDT (fn : FuncId) (tmps : Array Value) (ps : Array Tmp) (assign body : Code) (D : Nat) (st : LoopState) (pe : Option Code) : Loop :=
 { state := st, pending := pe, fn := fn, tmps := tmps, params := ps, assign := assign, body := body, defers := D }
def qEQ (l : Nat) (rec : LoopState -> Option Code -> Loop) (R : Ending -> World -> Prop) : Exit -> Act -> World -> Prop
 | .normal, _, W => W.heap[l]? = some (.loop (rec .busy none)) /\ R (.returned (.bool true)) (W.putObj l (.loop (rec .ready none)))
 | .ret, _, W => W.heap[l]? = some (.loop (rec .busy none)) /\ R (.returned (.bool false)) (W.putObj l (.loop (rec .done (some .ret))))
 | _, _, _ => False
theorem qBG {F : Fence} {m : Nat} {P : Program} {l D : Nat} {fn : FuncId} {tmps : Array Value} {ps : Array Tmp} {assign body : Code} {args : Array Value} {W : World} {R : Ending -> World -> Prop} (hfn : F.fn fn)
 (hl : W.heap[l]? = some (.loop (qDT fn tmps ps assign body D .ready none))) (hps : args.size = ps.size)
 (h : assign.wpIn (F.inRound l) m P (Exit.then (fun a₁ W₁ => W₁.heap[l]? = some (.loop (qDT fn tmps ps assign body D .ready none)) /\
  body.wpIn (F.inRound l) m P (qEQ l (qDT fn tmps ps assign body D) R) a₁ (W₁.putObj l (.loop (qDT fn tmps ps assign body D .busy none)))) (fun _ _ _ => False))
  { tmps := (ps.zip args).foldl (fun t (p, v) => t.setIfInBounds p v) tmps, defers := [] } W) :
 YieldAt F m P l args W R := by
 have hy := run_yield (P := P) (args := args) hl hps; refine ⟨fn, _, assign, body, hy, roundIn_of_wpIn hfn (wpIn_mono h ?_)⟩; rintro e a₁ W₁ hq; cases e with
 | normal =>
  obtain ⟨hl1, hb⟩ := hq; refine ⟨_, run_beginRound hl1 rfl, wpIn_mono hb ?_⟩; rintro e a₂ W₂ hp; cases e with
  | normal =>
   obtain ⟨hl2, hr⟩ := hp; exact ⟨_, _, run_endRound none hl2, hr⟩
  | ret =>
   obtain ⟨hl2, hr⟩ := hp; exact ⟨_, _, run_endRound (some .ret) hl2, hr⟩
  | exit id => exact hp.elim
  | goto t => exact hp.elim
  | panic c => exact hp.elim
  | outgrown => exact hp.elim
 | exit id => exact hq.elim
 | goto t => exact hq.elim
 | ret => exact hq.elim
 | panic c => exact hq.elim
 | outgrown => exact hq.elim
def qLs (_F : Fence) (_n : Nat) (_P : Program) (l : Nat) (rec : LoopState -> Option Code -> Loop) (Q : Exit -> Act -> World -> Prop) (a : Act) (W : World) : Prop :=
 (W.heap[l]? = some (.loop (rec .ready none)) /\ Q .normal a (W.putObj l (.loop (rec .exhausted none)))) \/
 (W.heap[l]? = some (.loop (rec .done (some .ret))) /\ Q .ret a (W.putObj l (.loop (rec .exhausted (some .ret)))))
theorem qCM {F : Fence} {n : Nat} {P : Program} {g : Operand} {ps : Array Tmp} {assign body : Code} {Q : Exit -> Act -> World -> Prop} {a : Act} {w : World}
 (hro : F.round = none) (h1 : 1 <= n) {gf : Nat} {lb : Array Value} (hg : a.eval g = .func (.func gf) #[] lb) (hFg : F.fn gf) (eg : ∀ args w, (callFunc gf args).run P w = .ok (.enter gf args) w)
 (h : ∀ fn, F.fn fn -> CallsIn F (n - 1) P gf (#[.func (.yield (w.heap.size + 1)) #[] #[]] ++ lb)
  ((w.alloc (.deferred (some []))).alloc (.loop (qDT fn a.tmps ps assign body w.heap.size .ready none)))
  fun e W' => (∃ v, e = .returned v) /\ qLs F n P (w.heap.size + 1) (qDT fn a.tmps ps assign body w.heap.size) Q { a with defers := { target := .collected w.heap.size, args := #[] } :: a.defers } W') :
 (Code.rangeFunc g ps assign body).wpIn F n P Q a w := by
 refine wpIn_rangeFunc ?_; intro fn hfn; rw [hro]; obtain ⟨W1, hW1⟩ : ∃ W1, (w.alloc (.deferred (some []))).alloc (.loop (qDT fn a.tmps ps assign body w.heap.size .ready none)) = W1 := ⟨_, rfl⟩; have hc := h fn hfn; rw [hW1] at hc; refine ⟨w.heap.size + 1, [{ target := .collected w.heap.size, args := #[] }], W1, { target := .fn (.func gf) lb, args := #[.func (.yield (w.heap.size + 1)) #[] #[]] }, W1, gf,
  #[.func (.yield (w.heap.size + 1)) #[] #[]] ++ lb, W1, ?_, ?_, ?_, ?_, fun _ => h1, ?_⟩
 ·rw [<- hW1]; exact run_enterLoop_outer _ _ _ _ _
 ·simp only [resolve, hg]
  simp [go_sem]
 ·intro f' hf'; simp [Target.leads] at hf'; subst hf'; exact hFg
 ·simp [invoke, go_sem, eg]
 ·refine hc.mono ?_
  clear hc h hW1; rintro e W ⟨⟨v, rfl⟩, ⟨hl, hq⟩ | ⟨hl, hq⟩⟩
  ·have hr := run_endLoop (P := P) hl (by simp [qDT])
   exact ⟨none, _, hr, hq⟩
  ·have hr := run_endLoop (P := P) hl (by simp [qDT])
   refine ⟨some .ret, _, hr, ?_⟩; exact wpIn_ret hq
abbrev Bs := List UInt8
def cls (c : Int) : Int :=
 if c == 32 then 0 else if c == 9 then 0 else if c == 10 then 0 else if c == 95 then 3 else
 if c == 58 then 4 else if c == 59 then 4 else if c == 44 then 4 else if c == 40 then 4 else if c == 41 then 4 else
 if c == 123 then 4 else if c == 125 then 4 else if c == 61 then 4 else if c == 60 then 4 else if c == 62 then 4 else
 if c == 43 then 4 else if c == 46 then 4 else if c == 35 then 5 else if c == 45 then 6 else
 if 97 <= c /\ c <= 122 then 1 else if 48 <= c /\ c <= 57 then 2 else 7
def cl (c : UInt8) : Int := cls c.toNat
def kindsL : List Int := [0,0,0,0,0,0,0,0,0,1,1,0,0,0,0,0,0,0,0,0,0,0,0,0,0,0,0,0,0,0,0,0,1,0,0,2,0,0,0,0,7,7,0,7,7,6,7,0,4,4,4,4,4,4,4,4,4,4,7,7,7,7,7,0,0,0,0,0,0,0,0,0,0,0,0,0,0,0,0,0,0,0,0,0,0,0,0,0,0,0,0,0,0,0,0,5,0,3,3,3,3,3,3,3,3,3,3,3,3,3,3,3,3,3,3,3,3,3,3,3,3,3,3,7,0,7,0,0]
def kd (c : UInt8) : Int := if c.toNat < 128 then kindsL.getD c.toNat 0 else 0
def qMW (n : Int) : Int := if n = 0 then 1 else if n = 1 then 3 else if n = 2 then 4 else if n = 3 then 5 else if n = 4 then 7 else if n = 5 then 2 else if n = 6 then 6 else 0
theorem qL3 : ∀ n : Fin 256, kd (UInt8.ofNat n.1) = qMW (cl (UInt8.ofNat n.1)) := by decide +kernel
theorem qII (c : UInt8) : kd c = qMW (cl c) := by
 have h := qL3 ⟨c.toNat, UInt8.toNat_lt c⟩; simpa using h
theorem qHW : ∀ n : Fin 256, 0 <= cl (UInt8.ofNat n.1) /\ cl (UInt8.ofNat n.1) <= 7 := by decide +kernel
theorem qB2 (c : UInt8) : 0 <= cl c /\ cl c <= 7 := by
 have h := qHW ⟨c.toNat, UInt8.toNat_lt c⟩; simpa using h
theorem qI4 : ∀ n : Fin 256, (cl (UInt8.ofNat n.1) = 5 ↔ n.1 = 35) /\ (cl (UInt8.ofNat n.1) = 6 ↔ n.1 = 45) /\ (n.1 = 10 -> cl (UInt8.ofNat n.1) = 0) /\ (cl (UInt8.ofNat n.1) = 2 ↔ (48 <= n.1 /\ n.1 <= 57)) := by decide +kernel
theorem qD5 (c : UInt8) : (cl c = 5 ↔ c.toNat = 35) /\ (cl c = 6 ↔ c.toNat = 45) /\ (c.toNat = 10 -> cl c = 0) /\ (cl c = 2 ↔ (48 <= c.toNat /\ c.toNat <= 57)) := by
 have h := qI4 ⟨c.toNat, UInt8.toNat_lt c⟩; simpa using h
def nc (cm : Bool) (c : UInt8) : Bool := if c.toNat = 10 then false else if c.toNat = 35 then true else cm
def sk : Bool -> Bs -> Bs
 | _, [] => []
 | cm, c :: l => if nc cm c = false /\ cl c ≠ 0 then c :: l else sk (nc cm c) l
theorem qDd (cm : Bool) (c : UInt8) (l : Bs) : sk cm (c :: l) = if nc cm c = false /\ cl c ≠ 0 then c :: l else sk (nc cm c) l := rfl
theorem qDr : ∀ (cm : Bool) (l : Bs), sk cm l <:+ l
 | _, [] => by simp [sk]
 | cm, c :: l => by
  rw [qDd]
  split
  ·exact List.suffix_refl _
  ·exact (qDr _ l).trans (List.suffix_cons c l)
theorem qG3 (cm : Bool) (l : Bs) : (sk cm l).length <= l.length := (qDr cm l).length_le
theorem qGd : ∀ (cm : Bool) (l : Bs), sk false (sk cm l) = sk cm l
 | _, [] => rfl
 | cm, c :: l => by
  rw [qDd]
  split
  ·rename_i h
   obtain ⟨h1, h2⟩ := h; have h3 : nc false c = false := by
    unfold nc at h1 ⊢; by_cases h10 : c.toNat = 10
    ·simp [h10]
    ·by_cases h35 : c.toNat = 35
     ·simp [h35] at h1
     ·simp [h35]
   rw [qDd, if_pos ⟨h3, h2⟩]
  ·exact qGd _ l
theorem qFU : ∀ l : Bs, sk true l = sk false (l.dropWhile (fun c => c != 10))
 | [] => rfl
 | c :: l => by
  by_cases h : c = 10
  ·subst h; simp [sk, nc]
  ·have h10 : ¬ c.toNat = 10 := fun e => h (by rw [<- UInt8.toNat_inj]; exact e)
   have hb : (c != 10) = true := by simpa using h
   have h1 : nc true c = true := by simp [nc, h10]
   rw [List.dropWhile_cons]; simp only [hb, if_true]; rw [qDd, h1, if_neg (by simp), qFU l]
theorem qMZ (c : UInt8) (l : Bs) (h : cl c = 0) : sk false (c :: l) = sk false l := by
 have h35 : ¬ c.toNat = 35 := fun e => by have := (qD5 c).1.2 e; omega
 have h1 : nc false c = false := by simp [nc, h35]
 rw [qDd, h1, if_neg (by simp [h])]
theorem qOC (c : UInt8) (l : Bs) (h : cl c = 5) : sk false (c :: l) = sk true l := by
 have h35 : c.toNat = 35 := (qD5 c).1.1 h; have h1 : nc false c = true := by simp [nc, h35]
 rw [qDd, h1, if_neg (by simp)]
theorem qOB (c : UInt8) (l : Bs) (h0 : cl c ≠ 0) (h5 : cl c ≠ 5) : sk false (c :: l) = c :: l := by
 have h35 : ¬ c.toNat = 35 := fun e => h5 ((qD5 c).1.2 e); have h1 : nc false c = false := by simp [nc, h35]
 rw [qDd, if_pos ⟨h1, h0⟩]
def wb (c : UInt8) : Bool := decide (1 <= cl c) && decide (cl c <= 3)
def db (c : UInt8) : Bool := decide (cl c = 2)
def tl : Bs -> Nat
 | [] => 0
 | c :: l =>
  if cl c = 1 then 1 + (l.takeWhile wb).length
  else if cl c = 2 then 1 + (l.takeWhile db).length
  else if cl c = 4 then 1
  else if cl c = 6 then (if l.head? = some 62 then 2 else 0)
  else 0
def dg (c : UInt8) : Nat := c.toNat - 48
theorem qQK (c : UInt8) : dg c = c.toNat - 48 := rfl
attribute [irreducible] dg
def dv : Nat -> Bs -> Nat
 | n, [] => n
 | n, c :: l => dv (10 * n + dg c) l
theorem qFh (n : Nat) (c : UInt8) (l : Bs) : dv n (c :: l) = dv (10 * n + dg c) l := by rw [dv]
theorem qPi (l : Bs) (c : UInt8) : ∀ n : Nat, dv n (l ++ [c]) = 10 * dv n l + dg c := by
 induction l with
 | nil => intro n; rfl
 | cons d l ih => intro n; rw [List.cons_append, qFh, qFh]; exact ih _
structure Tok where
 kind : Int
 text : Bs
 n : Int
 at_ : Nat
def nx (a : Nat) (l : Bs) : Except Int Tok :=
 match l with
 | [] => .error 2
 | c :: r =>
  if tl (c :: r) = 0 then .error 2
  else if cl c = 1 then (if tl (c :: r) > 16 then .error 4 else .ok ⟨0, (c :: r).take (tl (c :: r)), 0, a⟩)
  else if cl c = 2 then (if dv 0 ((c :: r).take (tl (c :: r))) > 1099511627776 then .error 4 else .ok ⟨1, (c :: r).take (tl (c :: r)), dv 0 ((c :: r).take (tl (c :: r))), a⟩)
  else .ok ⟨2, (c :: r).take (tl (c :: r)), 0, a⟩
theorem qPN : ∀ l : Bs, tl l <= l.length
 | [] => Nat.le_refl _
 | c :: l => by
  have h1 := (List.takeWhile_sublist wb (l := l)).length_le; have h2 := (List.takeWhile_sublist db (l := l)).length_le; have h3 : l.head? = some 62 -> 1 <= l.length := by
   intro h; cases l with
   | nil => simp at h
   | cons d l => simp
  rw [tl, List.length_cons]; by_cases a1 : cl c = 1
  ·rw [if_pos a1]; omega
  ·by_cases a2 : cl c = 2
   ·rw [if_neg a1, if_pos a2]; omega
   ·by_cases a4 : cl c = 4
    ·rw [if_neg a1, if_neg a2, if_pos a4]; omega
    ·by_cases a6 : cl c = 6
     ·rw [if_neg a1, if_neg a2, if_neg a4, if_pos a6]
      by_cases a7 : l.head? = some 62
      ·rw [if_pos a7]; have := h3 a7; omega
      ·rw [if_neg a7]; omega
     ·rw [if_neg a1, if_neg a2, if_neg a4, if_neg a6]; omega
theorem qLF {a : Nat} {l : Bs} {t : Tok} (h : nx a l = .ok t) : 0 < tl l /\ t.text = l.take (tl l) /\ t.at_ = a := by
 cases l with
 | nil => simp [nx] at h
 | cons c r =>
  unfold nx at h; simp only [] at h; by_cases h0 : tl (c :: r) = 0
  ·rw [if_pos h0] at h; cases h
  ·rw [if_neg h0] at h
   refine ⟨by omega, ?_⟩; by_cases h1 : cl c = 1
   ·rw [if_pos h1] at h
    by_cases h2 : tl (c :: r) > 16
    ·rw [if_pos h2] at h; cases h
    ·rw [if_neg h2] at h; cases h; exact ⟨rfl, rfl⟩
   ·rw [if_neg h1] at h
    by_cases h2 : cl c = 2
    ·rw [if_pos h2] at h
     by_cases h3 : dv 0 ((c :: r).take (tl (c :: r))) > 1099511627776
     ·rw [if_pos h3] at h; cases h
     ·rw [if_neg h3] at h; cases h; exact ⟨rfl, rfl⟩
    ·rw [if_neg h2] at h; cases h; exact ⟨rfl, rfl⟩
def qOU (N : Nat) : Nat -> Bs -> Except (Nat × Int) (List Tok)
 | 0, _ => .ok []
 | f + 1, l =>
  match sk false l with
  | [] => .ok []
  | c :: r =>
   match nx (N - (c :: r).length) (c :: r) with
   | .error e => .error (N - (c :: r).length, e)
   | .ok t =>
    match qOU N f ((c :: r).drop (tl (c :: r))) with
    | .error x => .error x
    | .ok ts => .ok (t :: ts)
def lx (N : Nat) (l : Bs) : Except (Nat × Int) (List Tok) := qOU N (l.length + 1) l
theorem qHr (N : Nat) : ∀ (f g : Nat) (l : Bs), l.length < f -> l.length < g -> qOU N f l = qOU N g l
 | 0, _, _, h, _ => by omega
 | _, 0, _, _, h => by omega
 | f + 1, g + 1, l, hf, hg => by
  rw [qOU, qOU]; cases hs : sk false l with
  | nil => rfl
  | cons c r =>
   simp only []; cases hn : nx (N - (c :: r).length) (c :: r) with
   | error e => rfl
   | ok t =>
    simp only []; have h0 := (qLF hn).1; have hlen : (c :: r).length <= l.length := by rw [<- hs]; exact qG3 _ _
    have hd : ((c :: r).drop (tl (c :: r))).length < l.length := by
     rw [List.length_drop]; have : 0 < (c :: r).length := by simp
     omega
    rw [qHr N f g _ (by omega) (by omega)]
theorem qKr (N : Nat) (l : Bs) : lx N l = match sk false l with
 | [] => .ok []
 | c :: r =>
  match nx (N - (c :: r).length) (c :: r) with
  | .error e => .error (N - (c :: r).length, e)
  | .ok t =>
   match lx N ((c :: r).drop (tl (c :: r))) with
   | .error x => .error x
   | .ok ts => .ok (t :: ts) := by
 rw [lx, qOU]; cases hs : sk false l with
 | nil => rfl
 | cons c r =>
  simp only []; cases hn : nx (N - (c :: r).length) (c :: r) with
  | error e => rfl
  | ok t =>
   simp only []; have h0 := (qLF hn).1; have hlen : (c :: r).length <= l.length := by rw [<- hs]; exact qG3 _ _
   have hd : ((c :: r).drop (tl (c :: r))).length < l.length := by
    rw [List.length_drop]; have : 0 < (c :: r).length := by simp
    omega
   rw [lx, qHr N l.length (((c :: r).drop (tl (c :: r))).length + 1) _ hd (by omega)]
theorem qQA (N : Nat) (cm : Bool) (l : Bs) : lx N (sk cm l) = match sk cm l with
 | [] => .ok []
 | c :: r =>
  match nx (N - (c :: r).length) (c :: r) with
  | .error e => .error (N - (c :: r).length, e)
  | .ok t =>
   match lx N ((c :: r).drop (tl (c :: r))) with
   | .error x => .error x
   | .ok ts => .ok (t :: ts) := by
 rw [qKr, qGd]
theorem qLM (N : Nat) (l : Bs) : lx N (sk false l) = lx N l := by
 rw [qQA, <- qKr]
theorem qHo (N : Nat) : ∀ (n : Nat) (l : Bs) (ts : List Tok), l.length <= n -> lx N l = .ok ts -> ts.length <= l.length
 | n, l, ts, hn, h => by
  rw [qKr] at h; cases hs : sk false l with
  | nil => rw [hs] at h; cases h; simp
  | cons c r =>
   rw [hs] at h; simp only [] at h; cases hx : nx (N - (c :: r).length) (c :: r) with
   | error e => rw [hx] at h; cases h
   | ok t =>
    rw [hx] at h; simp only [] at h; have h0 := (qLF hx).1; have hle : (c :: r).length <= l.length := by rw [<- hs]; exact qG3 _ _
    have hd : ((c :: r).drop (tl (c :: r))).length < l.length := by
     rw [List.length_drop]; have : 0 < (c :: r).length := by simp
     omega
    cases hy : lx N ((c :: r).drop (tl (c :: r))) with
    | error e => rw [hy] at h; cases h
    | ok us =>
     rw [hy] at h; cases h
     match n, hn with
     | 0, hn => omega
     | m + 1, hn =>
      have := qHo N m _ us (by omega) hy; simp only [List.length_cons] at *; omega
theorem qM7 {a : Nat} {l : Bs} {e : Int} (h : nx a l = .error e) : e = 2 \/ e = 4 := by
 cases l with
 | nil => simp [nx] at h; exact .inl h.symm
 | cons c r =>
  unfold nx at h; simp only [] at h; by_cases h0 : tl (c :: r) = 0
  ·rw [if_pos h0] at h; cases h; exact .inl rfl
  ·rw [if_neg h0] at h
   by_cases h1 : cl c = 1
   ·rw [if_pos h1] at h
    by_cases h2 : tl (c :: r) > 16
    ·rw [if_pos h2] at h; cases h; exact .inr rfl
    ·rw [if_neg h2] at h; cases h
   ·rw [if_neg h1] at h
    by_cases h2 : cl c = 2
    ·rw [if_pos h2] at h
     by_cases h3 : dv 0 ((c :: r).take (tl (c :: r))) > 1099511627776
     ·rw [if_pos h3] at h; cases h; exact .inr rfl
     ·rw [if_neg h3] at h; cases h
    ·rw [if_neg h2] at h; cases h
theorem qOa (N : Nat) : ∀ (n : Nat) (l : Bs) (k : Nat) (e : Int), l.length <= n -> lx N l = .error (k, e) -> (e = 2 \/ e = 4) /\ (l.length <= N -> N - l.length <= k /\ k < N)
 | n, l, k, e, hn, h => by
  rw [qKr] at h; cases hs : sk false l with
  | nil => rw [hs] at h; cases h
  | cons c r =>
   rw [hs] at h; simp only [] at h; have hle : (c :: r).length <= l.length := by rw [<- hs]; exact qG3 _ _
   have hpos : 0 < (c :: r).length := by simp
   cases hx : nx (N - (c :: r).length) (c :: r) with
   | error e' => rw [hx] at h; cases h; exact ⟨qM7 hx, fun h => by omega⟩
   | ok t =>
    rw [hx] at h; simp only [] at h; have h0 := (qLF hx).1; have hd : ((c :: r).drop (tl (c :: r))).length < l.length := by
     rw [List.length_drop]; omega
    cases hy : lx N ((c :: r).drop (tl (c :: r))) with
    | ok us => rw [hy] at h; cases h
    | error x =>
     rw [hy] at h; cases h
     match n, hn with
     | 0, hn => omega
     | m + 1, hn =>
      have := qOa N m _ k e (by omega) hy; exact ⟨this.1, fun h => by have := this.2 (by omega); omega⟩
theorem qAH (s : ByteArray) (k : Nat) (h : k < s.size) : s.data.toList.drop k = s[k] :: s.data.toList.drop (k + 1) := by
 rw [List.drop_eq_getElem_cons (by simpa using h)]; rfl
theorem qDD (s : ByteArray) (k : Nat) (h : s.size <= k) : s.data.toList.drop k = [] := by
 rw [List.drop_eq_nil_iff]; simpa using h
def qFE (s : ByteArray) (cm : Bool) (k : Nat) : Nat := s.size - (sk cm (s.data.toList.drop k)).length
theorem qLd (s : ByteArray) (cm : Bool) (k : Nat) : qFE s cm k <= s.size := by unfold qFE; omega
theorem qEK (s : ByteArray) (cm : Bool) (k : Nat) (h : k <= s.size) (hh : sk cm (s.data.toList.drop k) = s.data.toList.drop k) : qFE s cm k = k := by
 unfold qFE; rw [hh, List.length_drop]; have : s.data.toList.length = s.size := by simp
 omega
theorem qDs (s : ByteArray) (cm : Bool) (k : Nat) : s.data.toList.drop (qFE s cm k) = sk cm (s.data.toList.drop k) := by
 have hl : s.data.toList.length = s.size := by simp
 obtain ⟨p, hp⟩ := qDr cm (s.data.toList.drop k); have h2 : sk cm (s.data.toList.drop k) <:+ s.data.toList := (qDr _ _).trans (List.drop_suffix _ _); obtain ⟨q, hq⟩ := h2; have h3 : qFE s cm k = q.length := by
  unfold qFE; have := congrArg List.length hq; simp only [List.length_append] at this; omega
 rw [h3]
 conv => lhs; arg 2; rw [<- hq]
 simp
def run (p : UInt8 -> Bool) (s : ByteArray) (k : Nat) : Nat := k + ((s.data.toList.drop k).takeWhile p).length
theorem qLn (p : UInt8 -> Bool) (s : ByteArray) (k : Nat) (h : k <= s.size) : run p s k <= s.size := by
 unfold run; have h1 := (List.takeWhile_sublist p (l := s.data.toList.drop k)).length_le; have hl : s.data.toList.length = s.size := by simp
 rw [List.length_drop] at h1; omega
theorem qPQ (p : UInt8 -> Bool) (s : ByteArray) (k : Nat) : k <= run p s k := by unfold run; omega
theorem qDt (p : UInt8 -> Bool) (s : ByteArray) (k : Nat) (h : k < s.size) (hp : p s[k] = true) : run p s k = run p s (k + 1) := by
 unfold run; rw [qAH s k h, List.takeWhile_cons, if_pos hp, List.length_cons]; omega
theorem qEu (p : UInt8 -> Bool) (s : ByteArray) (k : Nat) (h : k < s.size) (hp : p s[k] = false) : run p s k = k := by
 unfold run; rw [qAH s k h, List.takeWhile_cons, if_neg (by simp [hp])]; simp
theorem qLo (p : UInt8 -> Bool) (s : ByteArray) (k : Nat) (h : s.size <= k) : run p s k = k := by
 unfold run; rw [qDD s k h]; simp
def qAL (s : ByteArray) (k : Nat) : Nat := k + tl (s.data.toList.drop k)
theorem qKG (s : ByteArray) (k : Nat) (h : k < s.size) (h1 : cl s[k] = 1) : qAL s k = run wb s (k + 1) := by
 unfold qAL run; rw [qAH s k h, tl, if_pos h1]; omega
theorem qHE (s : ByteArray) (k : Nat) (h : k < s.size) (h1 : cl s[k] = 2) : qAL s k = run db s (k + 1) := by
 unfold qAL run; rw [qAH s k h, tl, if_neg (by omega), if_pos h1]; omega
theorem qEj (s : ByteArray) (k : Nat) (h : k < s.size) (h1 : cl s[k] = 4) : qAL s k = k + 1 := by
 unfold qAL; rw [qAH s k h, tl, if_neg (by omega), if_neg (by omega), if_pos h1]
theorem qIO (s : ByteArray) (k : Nat) (h : k < s.size) (h1 : cl s[k] ≠ 1) (h2 : cl s[k] ≠ 2) (h4 : cl s[k] ≠ 4) (h6 : cl s[k] ≠ 6) : qAL s k = k := by
 unfold qAL; rw [qAH s k h, tl, if_neg h1, if_neg h2, if_neg h4, if_neg h6]; omega
theorem qIQ (s : ByteArray) (k : Nat) (h : k + 1 < s.size) (h1 : cl s[k] = 6) (h2 : s[k + 1].toNat = 62) : qAL s k = k + 2 := by
 unfold qAL; rw [qAH s k (by omega), qAH s (k + 1) h, tl, if_neg (by omega), if_neg (by omega), if_neg (by omega), if_pos h1, if_pos]; simp [<- UInt8.toNat_inj, h2]
theorem qIP (s : ByteArray) (k : Nat) (h : k + 1 < s.size) (h1 : cl s[k] = 6) (h2 : ¬ s[k + 1].toNat = 62) : qAL s k = k := by
 unfold qAL; rw [qAH s k (by omega), qAH s (k + 1) h, tl, if_neg (by omega), if_neg (by omega), if_neg (by omega), if_pos h1, if_neg]
 ·omega
 ·simp [<- UInt8.toNat_inj, h2]
theorem qFe (s : ByteArray) (k : Nat) (h0 : k < s.size) (h : s.size <= k + 1) (h1 : cl s[k] = 6) : qAL s k = k := by
 unfold qAL; rw [qAH s k h0, qDD s (k + 1) h, tl, if_neg (by omega), if_neg (by omega), if_neg (by omega), if_pos h1, if_neg (by simp)]; omega
end Go.Proofs.YtkjhlkngihponaaGreatDoor
