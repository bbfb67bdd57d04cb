/- Walks of the reference's small functions: class, skip, end, value, Around. -/
import Derived.Test.YtkjhlkngihponaaGreatDoorQVGMath
import Derived.RangeFuncNested
import Derived.RangeFuncBound
import Derived.RangeFuncCalls
import Derived.RangeFuncLeaves
import Derived.Shelf.Abstract
import Derived.Shelf.RegionOpen
import Derived.WalkKit
import Derived.OwnWalkIn
import Derived.TacticsInMore
import Derived.LoopNIn
import Derived.LoopIn
import Derived.Test.YtkjhlkngihponaaGreatDoorProg
import Derived.WalkSpells
import Derived.WalkLawsBesides
import Derived.Lib.Hide
set_option linter.unusedVariables false
set_option linter.unusedSimpArgs false
set_option maxHeartbeats 2000000
set_option maxRecDepth 100000
namespace Go.Proofs.YtkjhlkngihponaaGreatDoor
open Go.RowKit
theorem qEo (l : List Amt) (j : Nat) (hj : j < l.length) (i : Nat) : ofI (l.take (j + 1)) i = ofI (l.take j) i + if l[j].item = i then l[j].n else 0 := by
 rw [List.take_succ_eq_append_getElem hj, qFJ, qI8, qCd]; omega
def qFo (l : List Amt) (z : Int) : Int := if 0 <= z then ((ofI l z.toNat : Nat) : Int) else 0
theorem qCP (l : List Amt) (i : Nat) : qFo l (i : Int) = (ofI l i : Nat) := by simp [qFo]
theorem qHs (l : List Amt) (j : Nat) (hj : j < l.length) : (fun i : Int => if i = (l[j].item : Int) then qFo (l.take j) (l[j].item : Int) + (l[j].n : Int) else qFo (l.take j) i) = qFo (l.take (j + 1)) := by
 funext z
 by_cases h : z = (l[j].item : Int)
 ·rw [if_pos h, h, qCP, qCP, qEo l j hj, if_pos rfl]
  omega
 ·rw [if_neg h]
  unfold qFo; by_cases hz : 0 <= z
  ·rw [if_pos hz, if_pos hz, qEo l j hj, if_neg (by omega)]
   rfl
  ·rw [if_neg hz, if_neg hz]
theorem qBn (l : List Amt) (j i : Nat) : ofI (l.take j) i <= ofI l i := by
 conv => rhs; rw [<- List.take_append_drop j l, qFJ]
 omega
theorem qD1.mono {w : World} {b n n' : Nat} {f : Int -> Int} (h : qD1 w b n f) (hn : n <= n') : qD1 w b n' f := by
 obtain ⟨D, h, hD⟩ := h; exact ⟨D, h.mono hn, hD⟩
theorem qHq (v v2 : Value) (lt lb : List Amt) (n : Nat) (w : World) (h : qAE w v lt) (h' : qAE w v2 lb) (hg : qBD n 1000 2 lt) (hg' : qBD n 1000 2 lb) (hn : n <= 1000) (hin : ∀ i, ofI lb i <= ofI lt i) :
 Calls Tryz.prog 94 #[v, v2] w fun e w' => e = .returned (.bool true) /\ Below w.heap.size w w' := by
 have HL := hZ h; have HL2 := hZ h'; have HG := hZ hg; have HG2 := hZ hg'; have HI := hZ hin; have hl1 := hg.len; have hl2 := hg'.len; have hmk := fun w => @run_makeMap Tryz.prog 197 w; obtain ⟨a0, c0, rfl, h1, h2⟩ := h.form; obtain ⟨a2, c2, rfl, h3, h4⟩ := h'.form; clear h h' hg hg' hin
 go_enter Tryz.func94, Tryz.ntmps94
 go_wp2_with fail
 clear hmk
 go_loopw [17] (fun i wr => ∃ (j : Nat), j <= lt.length /\ i = .int .i64 j /\ Hid (qD1 wr w.heap.size j (qFo (lt.take j))) /\ Hid (qD1 wr (w.heap.size + 1) 0 (qFo (lb.take 0))) /\ Hid (Below w.heap.size w wr)) (fun i _ => lt.length - (intOf i).toNat)
 case atStart =>
  refine ⟨0, by omega, rfl, hZ ?_, hZ ?_, hZ (aR.alloc (by simp) _)⟩
  ·have h9 := (qD1.made w).below ((Below.refl _ _).alloc (Nat.le_refl _) (.map #[] 0))
   have : qFo (lt.take 0) = fun _ => 0 := by funext z; simp [qFo, qCd]
   rw [this]; exact h9
  ·have h9 := qD1.made (w.alloc (.map #[] 0))
   have : qFo (lb.take 0) = fun _ => 0 := by funext z; simp [qFo, qCd]
   rw [this]; simpa using h9
 case round =>
  obtain ⟨j, hj, rfl, HM, HX, HB⟩ := hrel; by_cases hlt : j < lt.length
  ·obtain ⟨b, cap, hv, hb, c0, c1⟩ := qAE.at_ (HL.o.below HB.o) j hlt
   injection hv with e1 e2 e3; subst e1; clear e2 e3; have hx := HG.o.all lt[j] (List.getElem_mem hlt); have HS := hZ (qHs lt j hlt); have hle := qCl HG.o lt[j].item; have hle2 := qBn lt j lt[j].item; have hcn := qCP (lt.take j) lt[j].item; generalize lt[j] = x at *; obtain ⟨xi, xn⟩ := x; simp only [] at c0 c1 hx hle hle2 hcn HS; have HM5 := hZ (HM.o.below ((Below.refl _ wr).alloc (Nat.le_refl _) (.cells #[.int .i64 (xi : Int), .int .i64 (xn : Int)] 108))); have HX5 := hZ (HX.o.below ((Below.refl _ wr).alloc (Nat.le_refl _) (.cells #[.int .i64 (xi : Int), .int .i64 (xn : Int)] 108))); have hlook := HM5.o.look (xi : Int) (by omega); generalize hz : qFo (lt.take j) (xi : Int) = z at *; have hz1 : 0 <= z /\ z <= 2000 := by omega
   have HZ := hZ hz; have hwr := HB.o.size; clear hz hcn hle hle2
   go_wp2_with (at_mapUpdate; refine qEw rfl _ _ _ rfl (w.heap.size) j _ _ _ rfl rfl rfl HM5.o (by omega) (by omega) (by omega) ?_)
   intro w7 HM7 HO7; have HM8 : Hid (qD1 w7 (w.heap.size) (j + 1) (qFo (lt.take (j + 1)))) := hZ (by have h9 := HM7.o; rw [<- HS.o]; exact h9); have HB7 := hZ (HO7.o.below (HB.o.alloc HB.o.size _) (by simp; omega) (fun k hk => by omega)); have HX7 := hZ (HX5.o.only HO7.o (by omega)); clear HO7 HM7 hlook
   go_wp2_with fail
   go_roundw
   case rel => exact ⟨j + 1, by omega, by go_num, HM8, HX7, HB7⟩
   case measure => simp [intOf]; omega
  ·have HM2 := HM.o
   rw [List.take_of_length_le (show lt.length <= j by omega)] at HM2; have HT := hZ (HM2.mono (show j <= 2 by omega)); have HX1 := HX; have HB1 := HB; clear HM2 HM HX HB
   go_wp2_with fail
   clear hj; obtain ⟨wo, rfl⟩ := eY wr
   go_loopw [31] (fun i wr => ∃ (j : Nat), j <= lb.length /\ i = .int .i64 j /\ Hid (qD1 wr (w.heap.size + 1) j (qFo (lb.take j))) /\ Hid (qD1 wr w.heap.size 2 (qFo lt)) /\ Hid (Below w.heap.size w wr)) (fun i _ => lb.length - (intOf i).toNat)
   case atStart => exact ⟨0, by omega, rfl, HX1, HT, HB1⟩
   case round =>
    clear HX1 HT HB1; obtain ⟨j, hj, rfl, HM, HX, HB⟩ := hrel; by_cases hlt : j < lb.length
    ·obtain ⟨b, cap, hv, hb, c0, c1⟩ := qAE.at_ (HL2.o.below HB.o) j hlt
     injection hv with e1 e2 e3; subst e1; clear e2 e3; have hx := HG2.o.all lb[j] (List.getElem_mem hlt); have HS := hZ (qHs lb j hlt); have hle := qCl HG2.o lb[j].item; have hle2 := qBn lb j lb[j].item; have hcn := qCP (lb.take j) lb[j].item; generalize lb[j] = x at *; obtain ⟨xi, xn⟩ := x; simp only [] at c0 c1 hx hle hle2 hcn HS; have HM5 := hZ (HM.o.below ((Below.refl _ wr).alloc (Nat.le_refl _) (.cells #[.int .i64 (xi : Int), .int .i64 (xn : Int)] 108))); have HX5 := hZ (HX.o.below ((Below.refl _ wr).alloc (Nat.le_refl _) (.cells #[.int .i64 (xi : Int), .int .i64 (xn : Int)] 108))); have hlook := HM5.o.look (xi : Int) (by omega); generalize hz : qFo (lb.take j) (xi : Int) = z at *; have hz1 : 0 <= z /\ z <= 2000 := by omega
     have HZ := hZ hz; have hwr := HB.o.size; clear hz hcn hle hle2
     go_wp2_with (at_mapUpdate; refine qEw rfl _ _ _ rfl (w.heap.size + 1) j _ _ _ rfl rfl rfl HM5.o (by omega) (by omega) (by omega) ?_)
     intro w7 HM7 HO7; have HM8 : Hid (qD1 w7 (w.heap.size + 1) (j + 1) (qFo (lb.take (j + 1)))) := hZ (by have h9 := HM7.o; rw [<- HS.o]; exact h9); have HB7 := hZ (HO7.o.below (HB.o.alloc HB.o.size _) (by simp; omega) (fun k hk => by omega)); have HX7 := hZ (HX5.o.only HO7.o (by omega)); clear HO7 HM7 hlook
     go_wp2_with fail
     go_roundw
     case rel => exact ⟨j + 1, by omega, by go_num, HM8, HX7, HB7⟩
     case measure => simp [intOf]; omega
    ·have HM2 := HM.o
     rw [List.take_of_length_le (show lb.length <= j by omega)] at HM2; have HT := hZ (HM2.mono (show j <= 2 by omega)); have HX1 := HX; have HB1 := HB; clear HM2 HM HX HB
     go_wp2_with fail
     clear hj; obtain ⟨wp, rfl⟩ := eY wr
     go_loopw [45] (fun i wr => ∃ (j : Nat), j <= lb.length /\ i = .int .i64 j /\ Hid (qD1 wr (w.heap.size + 1) 2 (qFo lb)) /\ Hid (qD1 wr w.heap.size 2 (qFo lt)) /\ Hid (Below w.heap.size w wr)) (fun i _ => lb.length - (intOf i).toNat)
     case atStart => exact ⟨0, by omega, rfl, HT, HX1, HB1⟩
     case round =>
      clear HX1 HT HB1; obtain ⟨j, hj, rfl, HM, HX, HB⟩ := hrel; by_cases hlt : j < lb.length
      ·obtain ⟨b, cap, hv, hb, c0, c1⟩ := qAE.at_ (HL2.o.below HB.o) j hlt
       injection hv with e1 e2 e3; subst e1; clear e2 e3; have hx := HG2.o.all lb[j] (List.getElem_mem hlt); have hle := HI.o lb[j].item; have hcn := qCP lb lb[j].item; have hcm := qCP lt lb[j].item; generalize lb[j] = x at *; obtain ⟨xi, xn⟩ := x; simp only [] at c0 c1 hx hle hcn hcm; have HM5 := hZ (HM.o.below ((Below.refl _ wr).alloc (Nat.le_refl _) (.cells #[.int .i64 (xi : Int), .int .i64 (xn : Int)] 108))); have HX5 := hZ (HX.o.below ((Below.refl _ wr).alloc (Nat.le_refl _) (.cells #[.int .i64 (xi : Int), .int .i64 (xn : Int)] 108))); have hlook := HM5.o.look (xi : Int) (by omega); have hlook2 := HX5.o.look (xi : Int) (by omega); generalize hz : qFo lb (xi : Int) = z at *; generalize hz2 : qFo lt (xi : Int) = z2 at *; have hz3 : z <= z2 := by omega
       have q1 : decide (z2 < z) = false := by simp; omega
       have hwr := HB.o.size; clear hz hz2 hcn hcm hle
       go_wp2_with fail
       go_roundw
       case rel => exact ⟨j + 1, by omega, by go_num, HM5, HX5, hZ (HB.o.alloc HB.o.size _)⟩
       case measure => simp [intOf]; omega
      ·go_wp2_with fail
       go_ret; exact ⟨rfl, HB.o⟩
open Go Go.RowKit
def qDN (fn : FuncId) (tmps : Array Value) (ps : Array Tmp) (assign body : Code) (D : Nat) (st : LoopState) (pe : Option Code) : Loop :=
 { state := st, pending := pe, fn := fn, tmps := tmps, params := ps, assign := assign, body := body, defers := D }
def qEK (l : Nat) (rec : LoopState -> Option Code -> Loop) (R : Ending -> World -> Prop) : Exit -> Act -> World -> Prop
 | .normal, _, W => W.heap[l]? = some (.loop (rec .busy none)) /\ R (.returned (.bool true)) (W.putObj l (.loop (rec .ready none)))
 | .ret, _, W => W.heap[l]? = some (.loop (rec .busy none)) /\ R (.returned (.bool false)) (W.putObj l (.loop (rec .done (some .ret))))
 | _, _, _ => False
theorem qBJ {F : Fence} {m : Nat} {P : Program} {l D : Nat} {fn : FuncId} {tmps : Array Value} {ps : Array Tmp} {assign body : Code} {args : Array Value} {W : World} {R : Ending -> World -> Prop} (hfn : F.fn fn)
 (hl : W.heap[l]? = some (.loop (qDN fn tmps ps assign body D .ready none))) (hps : args.size = ps.size)
 (h : assign.wpIn (F.inRound l) m P (Exit.then (fun a₁ W₁ => W₁.heap[l]? = some (.loop (qDN fn tmps ps assign body D .ready none)) /\
  body.wpIn (F.inRound l) m P (qEK l (qDN fn tmps ps assign body D) R) a₁ (W₁.putObj l (.loop (qDN fn tmps ps assign body D .busy none)))) (fun _ _ _ => False))
  { tmps := (ps.zip args).foldl (fun t (p, v) => t.setIfInBounds p v) tmps, defers := [] } W) :
 YieldAt F m P l args W R := by
 have hy := run_yield (P := P) (args := args) hl hps; refine ⟨fn, _, assign, body, hy, roundIn_of_wpIn hfn (wpIn_mono h ?_)⟩; rintro e a₁ W₁ hq; cases e with
 | normal =>
  obtain ⟨hl1, hb⟩ := hq; refine ⟨_, run_beginRound hl1 rfl, wpIn_mono hb ?_⟩; rintro e a₂ W₂ hp; cases e with
  | normal =>
   obtain ⟨hl2, hr⟩ := hp; exact ⟨_, _, run_endRound none hl2, hr⟩
  | ret =>
   obtain ⟨hl2, hr⟩ := hp; exact ⟨_, _, run_endRound (some .ret) hl2, hr⟩
  | exit id => exact hp.elim
  | goto t => exact hp.elim
  | panic c => exact hp.elim
  | outgrown => exact hp.elim
 | exit id => exact hq.elim
 | goto t => exact hq.elim
 | ret => exact hq.elim
 | panic c => exact hq.elim
 | outgrown => exact hq.elim
def qK9 (_F : Fence) (_n : Nat) (_P : Program) (l : Nat) (rec : LoopState -> Option Code -> Loop) (Q : Exit -> Act -> World -> Prop) (a : Act) (W : World) : Prop :=
 (W.heap[l]? = some (.loop (rec .ready none)) /\ Q .normal a (W.putObj l (.loop (rec .exhausted none)))) \/
 (W.heap[l]? = some (.loop (rec .done (some .ret))) /\ Q .ret a (W.putObj l (.loop (rec .exhausted (some .ret)))))
theorem qCI {F : Fence} {n : Nat} {P : Program} {g : Operand} {ps : Array Tmp} {assign body : Code} {Q : Exit -> Act -> World -> Prop} {a : Act} {w : World}
 (hro : F.round = none) (h1 : 1 <= n) {gf : Nat} {lb : Array Value} (hg : a.eval g = .func (.func gf) #[] lb) (hFg : F.fn gf) (eg : ∀ args w, (callFunc gf args).run P w = .ok (.enter gf args) w)
 (h : ∀ fn, F.fn fn -> CallsIn F (n - 1) P gf (#[.func (.yield (w.heap.size + 1)) #[] #[]] ++ lb)
  ((w.alloc (.deferred (some []))).alloc (.loop (qDN fn a.tmps ps assign body w.heap.size .ready none)))
  fun e W' => (∃ v, e = .returned v) /\ qK9 F n P (w.heap.size + 1) (qDN fn a.tmps ps assign body w.heap.size) Q { a with defers := { target := .collected w.heap.size, args := #[] } :: a.defers } W') :
 (Code.rangeFunc g ps assign body).wpIn F n P Q a w := by
 refine wpIn_rangeFunc ?_; intro fn hfn; rw [hro]; obtain ⟨W1, hW1⟩ : ∃ W1, (w.alloc (.deferred (some []))).alloc (.loop (qDN fn a.tmps ps assign body w.heap.size .ready none)) = W1 := ⟨_, rfl⟩; have hc := h fn hfn; rw [hW1] at hc; refine ⟨w.heap.size + 1, [{ target := .collected w.heap.size, args := #[] }], W1, { target := .fn (.func gf) lb, args := #[.func (.yield (w.heap.size + 1)) #[] #[]] }, W1, gf,
  #[.func (.yield (w.heap.size + 1)) #[] #[]] ++ lb, W1, ?_, ?_, ?_, ?_, fun _ => h1, ?_⟩
 ·rw [<- hW1]; exact run_enterLoop_outer _ _ _ _ _
 ·simp only [resolve, hg]
  simp [go_sem]
 ·intro f' hf'; simp [Target.leads] at hf'; subst hf'; exact hFg
 ·simp [invoke, go_sem, eg]
 ·refine hc.mono ?_
  clear hc h hW1; rintro e W ⟨⟨v, rfl⟩, ⟨hl, hq⟩ | ⟨hl, hq⟩⟩
  ·have hr := run_endLoop (P := P) hl (by simp [qDN])
   exact ⟨none, _, hr, hq⟩
  ·have hr := run_endLoop (P := P) hl (by simp [qDN])
   refine ⟨some .ret, _, hr, ?_⟩; exact wpIn_ret hq
abbrev Bs := List UInt8
def cls (c : Int) : Int :=
 if c == 32 then 0 else if c == 9 then 0 else if c == 10 then 0 else if c == 95 then 3 else
 if c == 58 then 4 else if c == 59 then 4 else if c == 44 then 4 else if c == 40 then 4 else if c == 41 then 4 else
 if c == 123 then 4 else if c == 125 then 4 else if c == 61 then 4 else if c == 60 then 4 else if c == 62 then 4 else
 if c == 43 then 4 else if c == 46 then 4 else if c == 35 then 5 else if c == 45 then 6 else
 if 97 <= c /\ c <= 122 then 1 else if 48 <= c /\ c <= 57 then 2 else 7
def cl (c : UInt8) : Int := cls c.toNat
def kindsL : List Int := [0,0,0,0,0,0,0,0,0,1,1,0,0,0,0,0,0,0,0,0,0,0,0,0,0,0,0,0,0,0,0,0,1,0,0,2,0,0,0,0,7,7,0,7,7,6,7,0,4,4,4,4,4,4,4,4,4,4,7,7,7,7,7,0,0,0,0,0,0,0,0,0,0,0,0,0,0,0,0,0,0,0,0,0,0,0,0,0,0,0,0,0,0,0,0,5,0,3,3,3,3,3,3,3,3,3,3,3,3,3,3,3,3,3,3,3,3,3,3,3,3,3,3,7,0,7,0,0]
def kd (c : UInt8) : Int := if c.toNat < 128 then kindsL.getD c.toNat 0 else 0
def qMs (n : Int) : Int := if n = 0 then 1 else if n = 1 then 3 else if n = 2 then 4 else if n = 3 then 5 else if n = 4 then 7 else if n = 5 then 2 else if n = 6 then 6 else 0
theorem qLE : ∀ n : Fin 256, kd (UInt8.ofNat n.1) = qMs (cl (UInt8.ofNat n.1)) := by decide +kernel
theorem qIm (c : UInt8) : kd c = qMs (cl c) := by
 have h := qLE ⟨c.toNat, UInt8.toNat_lt c⟩; simpa using h
theorem qHy : ∀ n : Fin 256, 0 <= cl (UInt8.ofNat n.1) /\ cl (UInt8.ofNat n.1) <= 7 := by decide +kernel
theorem qB3 (c : UInt8) : 0 <= cl c /\ cl c <= 7 := by
 have h := qHy ⟨c.toNat, UInt8.toNat_lt c⟩; simpa using h
theorem qIF : ∀ n : Fin 256, (cl (UInt8.ofNat n.1) = 5 ↔ n.1 = 35) /\ (cl (UInt8.ofNat n.1) = 6 ↔ n.1 = 45) /\ (n.1 = 10 -> cl (UInt8.ofNat n.1) = 0) /\ (cl (UInt8.ofNat n.1) = 2 ↔ (48 <= n.1 /\ n.1 <= 57)) := by decide +kernel
theorem qDY (c : UInt8) : (cl c = 5 ↔ c.toNat = 35) /\ (cl c = 6 ↔ c.toNat = 45) /\ (c.toNat = 10 -> cl c = 0) /\ (cl c = 2 ↔ (48 <= c.toNat /\ c.toNat <= 57)) := by
 have h := qIF ⟨c.toNat, UInt8.toNat_lt c⟩; simpa using h
def nc (cm : Bool) (c : UInt8) : Bool := if c.toNat = 10 then false else if c.toNat = 35 then true else cm
def sk : Bool -> Bs -> Bs
 | _, [] => []
 | cm, c :: l => if nc cm c = false /\ cl c ≠ 0 then c :: l else sk (nc cm c) l
theorem qC3 (cm : Bool) (c : UInt8) (l : Bs) : sk cm (c :: l) = if nc cm c = false /\ cl c ≠ 0 then c :: l else sk (nc cm c) l := rfl
theorem qDl : ∀ (cm : Bool) (l : Bs), sk cm l <:+ l
 | _, [] => by simp [sk]
 | cm, c :: l => by
  rw [qC3]
  split
  ·exact List.suffix_refl _
  ·exact (qDl _ l).trans (List.suffix_cons c l)
theorem qGH (cm : Bool) (l : Bs) : (sk cm l).length <= l.length := (qDl cm l).length_le
theorem qFZ : ∀ (cm : Bool) (l : Bs), sk false (sk cm l) = sk cm l
 | _, [] => rfl
 | cm, c :: l => by
  rw [qC3]
  split
  ·rename_i h
   obtain ⟨h1, h2⟩ := h; have h3 : nc false c = false := by
    unfold nc at h1 ⊢; by_cases h10 : c.toNat = 10
    ·simp [h10]
    ·by_cases h35 : c.toNat = 35
     ·simp [h35] at h1
     ·simp [h35]
   rw [qC3, if_pos ⟨h3, h2⟩]
  ·exact qFZ _ l
theorem qFG : ∀ l : Bs, sk true l = sk false (l.dropWhile (fun c => c != 10))
 | [] => rfl
 | c :: l => by
  by_cases h : c = 10
  ·subst h; simp [sk, nc]
  ·have h10 : ¬ c.toNat = 10 := fun e => h (by rw [<- UInt8.toNat_inj]; exact e)
   have hb : (c != 10) = true := by simpa using h
   have h1 : nc true c = true := by simp [nc, h10]
   rw [List.dropWhile_cons]; simp only [hb, if_true]; rw [qC3, h1, if_neg (by simp), qFG l]
theorem qMx (c : UInt8) (l : Bs) (h : cl c = 0) : sk false (c :: l) = sk false l := by
 have h35 : ¬ c.toNat = 35 := fun e => by have := (qDY c).1.2 e; omega
 have h1 : nc false c = false := by simp [nc, h35]
 rw [qC3, h1, if_neg (by simp [h])]
theorem qN2 (c : UInt8) (l : Bs) (h : cl c = 5) : sk false (c :: l) = sk true l := by
 have h35 : c.toNat = 35 := (qDY c).1.1 h; have h1 : nc false c = true := by simp [nc, h35]
 rw [qC3, h1, if_neg (by simp)]
theorem qN1 (c : UInt8) (l : Bs) (h0 : cl c ≠ 0) (h5 : cl c ≠ 5) : sk false (c :: l) = c :: l := by
 have h35 : ¬ c.toNat = 35 := fun e => h5 ((qDY c).1.2 e); have h1 : nc false c = false := by simp [nc, h35]
 rw [qC3, if_pos ⟨h1, h0⟩]
def wb (c : UInt8) : Bool := decide (1 <= cl c) && decide (cl c <= 3)
def db (c : UInt8) : Bool := decide (cl c = 2)
def tl : Bs -> Nat
 | [] => 0
 | c :: l =>
  if cl c = 1 then 1 + (l.takeWhile wb).length
  else if cl c = 2 then 1 + (l.takeWhile db).length
  else if cl c = 4 then 1
  else if cl c = 6 then (if l.head? = some 62 then 2 else 0)
  else 0
def dg (c : UInt8) : Nat := c.toNat - 48
theorem qPX (c : UInt8) : dg c = c.toNat - 48 := rfl
attribute [irreducible] dg
def dv : Nat -> Bs -> Nat
 | n, [] => n
 | n, c :: l => dv (10 * n + dg c) l
theorem qFa (n : Nat) (c : UInt8) (l : Bs) : dv n (c :: l) = dv (10 * n + dg c) l := by rw [dv]
theorem qOz (l : Bs) (c : UInt8) : ∀ n : Nat, dv n (l ++ [c]) = 10 * dv n l + dg c := by
 induction l with
 | nil => intro n; rfl
 | cons d l ih => intro n; rw [List.cons_append, qFa, qFa]; exact ih _
structure Tok where
 kind : Int
 text : Bs
 n : Int
 at_ : Nat
def nx (a : Nat) (l : Bs) : Except Int Tok :=
 match l with
 | [] => .error 2
 | c :: r =>
  if tl (c :: r) = 0 then .error 2
  else if cl c = 1 then (if tl (c :: r) > 16 then .error 4 else .ok ⟨0, (c :: r).take (tl (c :: r)), 0, a⟩)
  else if cl c = 2 then (if dv 0 ((c :: r).take (tl (c :: r))) > 1099511627776 then .error 4 else .ok ⟨1, (c :: r).take (tl (c :: r)), dv 0 ((c :: r).take (tl (c :: r))), a⟩)
  else .ok ⟨2, (c :: r).take (tl (c :: r)), 0, a⟩
theorem qOY : ∀ l : Bs, tl l <= l.length
 | [] => Nat.le_refl _
 | c :: l => by
  have h1 := (List.takeWhile_sublist wb (l := l)).length_le; have h2 := (List.takeWhile_sublist db (l := l)).length_le; have h3 : l.head? = some 62 -> 1 <= l.length := by
   intro h; cases l with
   | nil => simp at h
   | cons d l => simp
  rw [tl, List.length_cons]; by_cases a1 : cl c = 1
  ·rw [if_pos a1]; omega
  ·by_cases a2 : cl c = 2
   ·rw [if_neg a1, if_pos a2]; omega
   ·by_cases a4 : cl c = 4
    ·rw [if_neg a1, if_neg a2, if_pos a4]; omega
    ·by_cases a6 : cl c = 6
     ·rw [if_neg a1, if_neg a2, if_neg a4, if_pos a6]
      by_cases a7 : l.head? = some 62
      ·rw [if_pos a7]; have := h3 a7; omega
      ·rw [if_neg a7]; omega
     ·rw [if_neg a1, if_neg a2, if_neg a4, if_neg a6]; omega
theorem qLi {a : Nat} {l : Bs} {t : Tok} (h : nx a l = .ok t) : 0 < tl l /\ t.text = l.take (tl l) /\ t.at_ = a := by
 cases l with
 | nil => simp [nx] at h
 | cons c r =>
  unfold nx at h; simp only [] at h; by_cases h0 : tl (c :: r) = 0
  ·rw [if_pos h0] at h; cases h
  ·rw [if_neg h0] at h
   refine ⟨by omega, ?_⟩; by_cases h1 : cl c = 1
   ·rw [if_pos h1] at h
    by_cases h2 : tl (c :: r) > 16
    ·rw [if_pos h2] at h; cases h
    ·rw [if_neg h2] at h; cases h; exact ⟨rfl, rfl⟩
   ·rw [if_neg h1] at h
    by_cases h2 : cl c = 2
    ·rw [if_pos h2] at h
     by_cases h3 : dv 0 ((c :: r).take (tl (c :: r))) > 1099511627776
     ·rw [if_pos h3] at h; cases h
     ·rw [if_neg h3] at h; cases h; exact ⟨rfl, rfl⟩
    ·rw [if_neg h2] at h; cases h; exact ⟨rfl, rfl⟩
def qOd (N : Nat) : Nat -> Bs -> Except (Nat × Int) (List Tok)
 | 0, _ => .ok []
 | f + 1, l =>
  match sk false l with
  | [] => .ok []
  | c :: r =>
   match nx (N - (c :: r).length) (c :: r) with
   | .error e => .error (N - (c :: r).length, e)
   | .ok t =>
    match qOd N f ((c :: r).drop (tl (c :: r))) with
    | .error x => .error x
    | .ok ts => .ok (t :: ts)
def lx (N : Nat) (l : Bs) : Except (Nat × Int) (List Tok) := qOd N (l.length + 1) l
theorem qG3 (N : Nat) : ∀ (f g : Nat) (l : Bs), l.length < f -> l.length < g -> qOd N f l = qOd N g l
 | 0, _, _, h, _ => by omega
 | _, 0, _, _, h => by omega
 | f + 1, g + 1, l, hf, hg => by
  rw [qOd, qOd]; cases hs : sk false l with
  | nil => rfl
  | cons c r =>
   simp only []; cases hn : nx (N - (c :: r).length) (c :: r) with
   | error e => rfl
   | ok t =>
    simp only []; have h0 := (qLi hn).1; have hlen : (c :: r).length <= l.length := by rw [<- hs]; exact qGH _ _
    have hd : ((c :: r).drop (tl (c :: r))).length < l.length := by
     rw [List.length_drop]; have : 0 < (c :: r).length := by simp
     omega
    rw [qG3 N f g _ (by omega) (by omega)]
theorem qJ9 (N : Nat) (l : Bs) : lx N l = match sk false l with
 | [] => .ok []
 | c :: r =>
  match nx (N - (c :: r).length) (c :: r) with
  | .error e => .error (N - (c :: r).length, e)
  | .ok t =>
   match lx N ((c :: r).drop (tl (c :: r))) with
   | .error x => .error x
   | .ok ts => .ok (t :: ts) := by
 rw [lx, qOd]; cases hs : sk false l with
 | nil => rfl
 | cons c r =>
  simp only []; cases hn : nx (N - (c :: r).length) (c :: r) with
  | error e => rfl
  | ok t =>
   simp only []; have h0 := (qLi hn).1; have hlen : (c :: r).length <= l.length := by rw [<- hs]; exact qGH _ _
   have hd : ((c :: r).drop (tl (c :: r))).length < l.length := by
    rw [List.length_drop]; have : 0 < (c :: r).length := by simp
    omega
   rw [lx, qG3 N l.length (((c :: r).drop (tl (c :: r))).length + 1) _ hd (by omega)]
theorem qPO (N : Nat) (cm : Bool) (l : Bs) : lx N (sk cm l) = match sk cm l with
 | [] => .ok []
 | c :: r =>
  match nx (N - (c :: r).length) (c :: r) with
  | .error e => .error (N - (c :: r).length, e)
  | .ok t =>
   match lx N ((c :: r).drop (tl (c :: r))) with
   | .error x => .error x
   | .ok ts => .ok (t :: ts) := by
 rw [qJ9, qFZ]
theorem qLo (N : Nat) (l : Bs) : lx N (sk false l) = lx N l := by
 rw [qPO, <- qJ9]
theorem qG1 (N : Nat) : ∀ (n : Nat) (l : Bs) (ts : List Tok), l.length <= n -> lx N l = .ok ts -> ts.length <= l.length
 | n, l, ts, hn, h => by
  rw [qJ9] at h; cases hs : sk false l with
  | nil => rw [hs] at h; cases h; simp
  | cons c r =>
   rw [hs] at h; simp only [] at h; cases hx : nx (N - (c :: r).length) (c :: r) with
   | error e => rw [hx] at h; cases h
   | ok t =>
    rw [hx] at h; simp only [] at h; have h0 := (qLi hx).1; have hle : (c :: r).length <= l.length := by rw [<- hs]; exact qGH _ _
    have hd : ((c :: r).drop (tl (c :: r))).length < l.length := by
     rw [List.length_drop]; have : 0 < (c :: r).length := by simp
     omega
    cases hy : lx N ((c :: r).drop (tl (c :: r))) with
    | error e => rw [hy] at h; cases h
    | ok us =>
     rw [hy] at h; cases h
     match n, hn with
     | 0, hn => omega
     | m + 1, hn =>
      have := qG1 N m _ us (by omega) hy; simp only [List.length_cons] at *; omega
theorem qMF {a : Nat} {l : Bs} {e : Int} (h : nx a l = .error e) : e = 2 \/ e = 4 := by
 cases l with
 | nil => simp [nx] at h; exact .inl h.symm
 | cons c r =>
  unfold nx at h; simp only [] at h; by_cases h0 : tl (c :: r) = 0
  ·rw [if_pos h0] at h; cases h; exact .inl rfl
  ·rw [if_neg h0] at h
   by_cases h1 : cl c = 1
   ·rw [if_pos h1] at h
    by_cases h2 : tl (c :: r) > 16
    ·rw [if_pos h2] at h; cases h; exact .inr rfl
    ·rw [if_neg h2] at h; cases h
   ·rw [if_neg h1] at h
    by_cases h2 : cl c = 2
    ·rw [if_pos h2] at h
     by_cases h3 : dv 0 ((c :: r).take (tl (c :: r))) > 1099511627776
     ·rw [if_pos h3] at h; cases h; exact .inr rfl
     ·rw [if_neg h3] at h; cases h
    ·rw [if_neg h2] at h; cases h
theorem qNy (N : Nat) : ∀ (n : Nat) (l : Bs) (k : Nat) (e : Int), l.length <= n -> lx N l = .error (k, e) -> (e = 2 \/ e = 4) /\ (l.length <= N -> N - l.length <= k /\ k < N)
 | n, l, k, e, hn, h => by
  rw [qJ9] at h; cases hs : sk false l with
  | nil => rw [hs] at h; cases h
  | cons c r =>
   rw [hs] at h; simp only [] at h; have hle : (c :: r).length <= l.length := by rw [<- hs]; exact qGH _ _
   have hpos : 0 < (c :: r).length := by simp
   cases hx : nx (N - (c :: r).length) (c :: r) with
   | error e' => rw [hx] at h; cases h; exact ⟨qMF hx, fun h => by omega⟩
   | ok t =>
    rw [hx] at h; simp only [] at h; have h0 := (qLi hx).1; have hd : ((c :: r).drop (tl (c :: r))).length < l.length := by
     rw [List.length_drop]; omega
    cases hy : lx N ((c :: r).drop (tl (c :: r))) with
    | ok us => rw [hy] at h; cases h
    | error x =>
     rw [hy] at h; cases h
     match n, hn with
     | 0, hn => omega
     | m + 1, hn =>
      have := qNy N m _ k e (by omega) hy; exact ⟨this.1, fun h => by have := this.2 (by omega); omega⟩
theorem qAG (s : ByteArray) (k : Nat) (h : k < s.size) : s.data.toList.drop k = s[k] :: s.data.toList.drop (k + 1) := by
 rw [List.drop_eq_getElem_cons (by simpa using h)]; rfl
theorem qDx (s : ByteArray) (k : Nat) (h : s.size <= k) : s.data.toList.drop k = [] := by
 rw [List.drop_eq_nil_iff]; simpa using h
def qFs (s : ByteArray) (cm : Bool) (k : Nat) : Nat := s.size - (sk cm (s.data.toList.drop k)).length
theorem qKR (s : ByteArray) (cm : Bool) (k : Nat) : qFs s cm k <= s.size := by unfold qFs; omega
theorem qEE (s : ByteArray) (cm : Bool) (k : Nat) (h : k <= s.size) (hh : sk cm (s.data.toList.drop k) = s.data.toList.drop k) : qFs s cm k = k := by
 unfold qFs; rw [hh, List.length_drop]; have : s.data.toList.length = s.size := by simp
 omega
theorem qDm (s : ByteArray) (cm : Bool) (k : Nat) : s.data.toList.drop (qFs s cm k) = sk cm (s.data.toList.drop k) := by
 have hl : s.data.toList.length = s.size := by simp
 obtain ⟨p, hp⟩ := qDl cm (s.data.toList.drop k); have h2 : sk cm (s.data.toList.drop k) <:+ s.data.toList := (qDl _ _).trans (List.drop_suffix _ _); obtain ⟨q, hq⟩ := h2; have h3 : qFs s cm k = q.length := by
  unfold qFs; have := congrArg List.length hq; simp only [List.length_append] at this; omega
 rw [h3]
 conv => lhs; arg 2; rw [<- hq]
 simp
def run (p : UInt8 -> Bool) (s : ByteArray) (k : Nat) : Nat := k + ((s.data.toList.drop k).takeWhile p).length
theorem qK2 (p : UInt8 -> Bool) (s : ByteArray) (k : Nat) (h : k <= s.size) : run p s k <= s.size := by
 unfold run; have h1 := (List.takeWhile_sublist p (l := s.data.toList.drop k)).length_le; have hl : s.data.toList.length = s.size := by simp
 rw [List.length_drop] at h1; omega
theorem qO1 (p : UInt8 -> Bool) (s : ByteArray) (k : Nat) : k <= run p s k := by unfold run; omega
theorem qDn (p : UInt8 -> Bool) (s : ByteArray) (k : Nat) (h : k < s.size) (hp : p s[k] = true) : run p s k = run p s (k + 1) := by
 unfold run; rw [qAG s k h, List.takeWhile_cons, if_pos hp, List.length_cons]; omega
theorem qEl (p : UInt8 -> Bool) (s : ByteArray) (k : Nat) (h : k < s.size) (hp : p s[k] = false) : run p s k = k := by
 unfold run; rw [qAG s k h, List.takeWhile_cons, if_neg (by simp [hp])]; simp
theorem qK3 (p : UInt8 -> Bool) (s : ByteArray) (k : Nat) (h : s.size <= k) : run p s k = k := by
 unfold run; rw [qDx s k h]; simp
def qAK (s : ByteArray) (k : Nat) : Nat := k + tl (s.data.toList.drop k)
theorem qKk (s : ByteArray) (k : Nat) (h : k < s.size) (h1 : cl s[k] = 1) : qAK s k = run wb s (k + 1) := by
 unfold qAK run; rw [qAG s k h, tl, if_pos h1]; omega
theorem qHg (s : ByteArray) (k : Nat) (h : k < s.size) (h1 : cl s[k] = 2) : qAK s k = run db s (k + 1) := by
 unfold qAK run; rw [qAG s k h, tl, if_neg (by omega), if_pos h1]; omega
theorem qEa (s : ByteArray) (k : Nat) (h : k < s.size) (h1 : cl s[k] = 4) : qAK s k = k + 1 := by
 unfold qAK; rw [qAG s k h, tl, if_neg (by omega), if_neg (by omega), if_pos h1]
theorem qIs (s : ByteArray) (k : Nat) (h : k < s.size) (h1 : cl s[k] ≠ 1) (h2 : cl s[k] ≠ 2) (h4 : cl s[k] ≠ 4) (h6 : cl s[k] ≠ 6) : qAK s k = k := by
 unfold qAK; rw [qAG s k h, tl, if_neg h1, if_neg h2, if_neg h4, if_neg h6]; omega
theorem qIu (s : ByteArray) (k : Nat) (h : k + 1 < s.size) (h1 : cl s[k] = 6) (h2 : s[k + 1].toNat = 62) : qAK s k = k + 2 := by
 unfold qAK; rw [qAG s k (by omega), qAG s (k + 1) h, tl, if_neg (by omega), if_neg (by omega), if_neg (by omega), if_pos h1, if_pos]; simp [<- UInt8.toNat_inj, h2]
theorem qIt (s : ByteArray) (k : Nat) (h : k + 1 < s.size) (h1 : cl s[k] = 6) (h2 : ¬ s[k + 1].toNat = 62) : qAK s k = k := by
 unfold qAK; rw [qAG s k (by omega), qAG s (k + 1) h, tl, if_neg (by omega), if_neg (by omega), if_neg (by omega), if_pos h1, if_neg]
 ·omega
 ·simp [<- UInt8.toNat_inj, h2]
theorem qE6 (s : ByteArray) (k : Nat) (h0 : k < s.size) (h : s.size <= k + 1) (h1 : cl s[k] = 6) : qAK s k = k := by
 unfold qAK; rw [qAG s k h0, qDx s (k + 1) h, tl, if_neg (by omega), if_neg (by omega), if_neg (by omega), if_pos h1, if_neg (by simp)]; omega
end Go.Proofs.YtkjhlkngihponaaGreatDoor
