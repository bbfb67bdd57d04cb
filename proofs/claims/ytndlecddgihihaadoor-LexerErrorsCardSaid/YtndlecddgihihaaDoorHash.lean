/- hash: mix, wordsOf, Sum at one label and one word. -/
import Derived.Test.YtndlecddgihihaaDoorLives
import Derived.RangeFuncNested
import Derived.RangeFuncBound
import Derived.RangeFuncCalls
import Derived.RangeFuncLeaves
import Derived.RangeFuncFrom
import Derived.Shelf.Abstract
import Derived.Shelf.RegionOpen
import Derived.OwnWalkIn
import Derived.TacticsInMore
import Derived.LoopNIn
import Derived.LoopIn
import Derived.WalkLawsBesides
namespace Go.Proofs.YtndlecddgihihaaDoor
open Go.RowKit Go.Shelf
attribute [local go_sem] Oper.semAt_some

def mixN (s x : Int) : Int := bits BinOp.xor IntKind.u64 (IntKind.u64.wrap (bits BinOp.xor IntKind.u64 s x * 11400714819323198485)) (IntKind.u64.wrap (bits BinOp.xor IntKind.u64 s x * 11400714819323198485) / 4294967296)

theorem mix_any (s x : Int) (w : World) :
    Calls Tryd.prog 29 #[.int .u64 s, .int .u64 x] w fun e w' => e = .returned (.int .u64 (mixN s x)) ∧ w = w' := by
  go_enter Tryd.func29, Tryd.ntmps29
  go_wp2
  go_ret
  exact ⟨rfl, rfl⟩

def wordK (k : Nat) : Int := [0, 108, 26988, 7235948, 1701734764].getD k 0

/-- two blocks lie as they lay -/
def KeepsTwo (p q : Nat) (W W' : World) : Prop := W'.heap[p]? = W.heap[p]? ∧ W'.heap[q]? = W.heap[q]?

theorem words1 (F : Fence) (n : Nat) (hF : F.fn 41) (hro : F.round = none) (hn : 1 ≤ n) (l Bs b cap : Nat) (J Jx : List Unit → World → Prop)
    (hY : ∀ pre x W, J pre W → pre.length < 1 → YieldAt F (n - 1) Tryd.prog l #[.int .u64 1701734764] W fun e W' =>
      (e = .returned (.bool true) ∧ J (pre ++ [x]) W' ∧ KeepsTwo Bs b W W') ∨ (e = .returned (.bool false) ∧ Jx (pre ++ [x]) W'))
    (W : World) (hBs : W.cell? ⟨Bs, 0, none⟩ = some (.slice (some ⟨b, 0, none⟩) 4 cap)) (hcap : 4 ≤ cap) (hcap2 : cap ≤ 9223372036854775807)
    (hc0 : W.cell? ⟨b, 0, none⟩ = some (.int .u8 108)) (hc1 : W.cell? ⟨b, 1, none⟩ = some (.int .u8 105)) (hc2 : W.cell? ⟨b, 2, none⟩ = some (.int .u8 110)) (hc3 : W.cell? ⟨b, 3, none⟩ = some (.int .u8 101)) (h0 : J [] W) :
    CallsIn F n Tryd.prog 41 #[.func (.yield l) #[] #[], .pointer (some ⟨Bs, 0, none⟩)] W fun e W' => (∃ v, e = .returned v) ∧
      ((∃ ys, ys = [()] ∧ J ys W') ∨ (∃ pre, True ∧ Jx pre W')) := by
  refine callsIn_of_wp Tryd.func41 rfl hF ?_ hro
  simp only [Tryd.ntmps41, List.size_toArray, List.length_cons, List.length_nil, Nat.reduceAdd, Nat.reduceSub, Array.replicate_succ, Array.replicate_zero, List.push_toArray, List.append_toArray, List.nil_append, List.cons_append]
  gi_wp2
  gi_loopw [3] (fun i wr => (i = .int .i64 0 ∧ J [] wr ∧ W = wr) ∨ (i = .int .i64 8 ∧ J [()] wr ∧ wr.cell? ⟨Bs, 0, none⟩ = some (.slice (some ⟨b, 0, none⟩) 4 cap))) (fun i _ => 8 - (intOf i).toNat)
  case atStart => exact .inl ⟨rfl, h0, rfl⟩
  case round =>
    rcases hrel with ⟨rfl, hJ, rfl⟩ | ⟨rfl, hJ, hcb⟩
    · have hm1 : min (8 : Int) 4 = 4 := by decide
      have hm2 : max (4 : Int) 0 = 4 := by decide
      gi_wp2
      clear hm1 hm2
      gi_loopw [4, 22] (fun wd i wr => W = wr ∧ ∃ k : Nat, k ≤ 4 ∧ i = .int .i64 k ∧ wd = .int .u64 (wordK k)) (fun _ i _ => 4 - (intOf i).toNat)
      case atStart => exact ⟨rfl, 0, by omega, rfl, rfl⟩
      case round =>
        obtain ⟨rfl, k, hk, rfl, rfl⟩ := hrel
        have hk5 : k = 0 ∨ k = 1 ∨ k = 2 ∨ k = 3 ∨ k = 4 := by omega
        rcases hk5 with rfl | rfl | rfl | rfl | rfl
        · gi_wp2
          exact ⟨⟨trivial, 1, by omega, rfl, by kernel_rfl⟩, by decide⟩
        · gi_wp2
          exact ⟨⟨trivial, 2, by omega, rfl, by kernel_rfl⟩, by decide⟩
        · gi_wp2
          exact ⟨⟨trivial, 3, by omega, rfl, by kernel_rfl⟩, by decide⟩
        · gi_wp2
          exact ⟨⟨trivial, 4, by omega, rfl, by kernel_rfl⟩, by decide⟩
        · obtain ⟨fn, tmps, assign, body, hy, hR⟩ := hY [] () W hJ (by decide)
          have hw4 : wordK 4 = 1701734764 := rfl
          rw [hw4]
          clear hw4
          gi_wp2
          refine hR.mono ?_
          rintro e W3 (⟨rfl, hJ3, hk3⟩ | ⟨rfl, hJx3⟩)
          · have hcb := (World.cell?_of_block (w := W) (a := ⟨Bs, 0, none⟩) hk3.1).trans hBs
            gi_wp2
            exact ⟨.inr ⟨rfl, hJ3, hcb⟩, by decide⟩
          · gi_wp2
            refine bodyPost_ret (results_none rfl _ _ _) rfl ?_
            exact ⟨⟨_, rfl⟩, .inr ⟨_, trivial, hJx3⟩⟩
    · gi_wp2
      go_end0
      exact ⟨⟨_, rfl⟩, .inl ⟨_, rfl, hJ⟩⟩

theorem wordsOf_any (a : Option Addr) (n c : Nat) (w : World) :
    Calls Tryd.prog 28 #[.slice a n c] w fun e w' => e = .returned (.func (.func 41) #[] #[.pointer (some ⟨w.heap.size, 0, none⟩)]) ∧ w' = w.alloc (.cells #[.slice a n c] 29) := by
  go_enter Tryd.func28, Tryd.ntmps28
  go_wp2
  go_ret
  exact ⟨rfl, rfl⟩

theorem line_bytes (w : World) : ∃ (cp : Nat) (C : Array Value) (fr : Nat × Nat), 4 ≤ cp ∧ cp ≤ 9223372036854775807 ∧ (C[0]? = some (.int .u8 108) ∧ C[1]? = some (.int .u8 105) ∧ C[2]? = some (.int .u8 110) ∧ C[3]? = some (.int .u8 101)) ∧
    (convert 9 29 (.string ⟨#[108, 105, 110, 101]⟩)).run Tryd.prog w = .ok (.slice (some ⟨w.heap.size, 0, none⟩) 4 cp) (w.drew.alloc (.cells C 5 fr)) := by
  have h1 := grownCap_ge w 4 0 5
  have h2 := grownCap_le_maxLen w 4 0 5 (by unfold maxLen; omega)
  unfold maxLen at h2
  exact ⟨_, _, _, h1, by omega, ⟨bytesRow_at _ _ 0 (by decide), bytesRow_at _ _ 1 (by decide), bytesRow_at _ _ 2 (by decide), bytesRow_at _ _ 3 (by decide)⟩, run_bytes_of_string (P := Tryd.prog) w 9 29 5 ⟨#[108, 105, 110, 101]⟩ Tryd.underlying9 Tryd.underlying29 Tryd.underlying5⟩

def sumN (x : Int) : Int := mixN (mixN (mixN (mixN (mixN 0 1701734764) 4) 1) (IntKind.u64.wrap x)) 0

set_option maxRecDepth 100000 in
set_option maxHeartbeats 2000000 in
theorem sum_in (g cap : Nat) (x : Int) (w : World) (hg : g < w.heap.size) (_hcap : 1 ≤ cap) (_hcap2 : cap ≤ 9223372036854775807) (hx : w.cell? ⟨g, 0, none⟩ = some (.int .i64 x)) :
    CallsIn Fence.wide 3 Tryd.prog 22 #[.string ⟨#[108, 105, 110, 101]⟩, .slice (some ⟨g, 0, none⟩) 1 cap] w fun e w' => e = .returned (.int .u64 (sumN x)) ∧ Below w.heap.size w w' := by
  have hro : Fence.wide.round = none := rfl
  refine callsIn_of_wp_marks Tryd.func22 rfl trivial ?_ hro
  simp only [Tryd.ntmps22, List.size_toArray, List.length_cons, List.length_nil, Nat.reduceAdd, Nat.reduceSub, Array.replicate_succ, Array.replicate_zero, List.push_toArray, List.append_toArray, List.nil_append, List.cons_append]
  obtain ⟨cp, C, fr, hcp, hcp2, ⟨e0, e1, e2, e3⟩, hrun⟩ := line_bytes (w.alloc (.cells #[.int .u64 0] 48))
  rw [World.size_alloc] at hrun
  have E0 := Lib.hid e0
  have E1 := Lib.hid e1
  have E2 := Lib.hid e2
  have E3 := Lib.hid e3
  clear e0 e1 e2 e3
  gi_wp2_with (refine ⟨trivial, ?_⟩; gi_at_call 28; refine (callsIn_wide.2 (wordsOf_any _ _ _ _)).mono ?_; rintro e w' ⟨rfl, rfl⟩)
  have hB0 : Below w.heap.size w (((w.alloc (.cells #[.int .u64 0] 48)).alloc (.cells C 5 fr)).alloc (.cells #[.slice (some ⟨w.heap.size + 1, 0, none⟩) 4 cp] 29)).drew := ((((Below.refl _ w).alloc (Nat.le_refl _) _).alloc (by simp) _).alloc (by simp; omega) _).drew
  obtain ⟨W0, hW0⟩ : ∃ W0, (((w.alloc (.cells #[.int .u64 0] 48)).alloc (.cells C 5 fr)).alloc (.cells #[.slice (some ⟨w.heap.size + 1, 0, none⟩) 4 cp] 29)).drew = W0 := ⟨_, rfl⟩
  have hsz : W0.heap.size = w.heap.size + 1 + 1 + 1 := by rw [← hW0]; simp
  have hb0 : W0.heap[w.heap.size]? = some (.cells #[.int .u64 0] 48) := by
    rw [← hW0]; show (World.alloc _ _).heap[_]? = _; rw [heap_alloc_get, if_neg (by simp; omega), heap_alloc_get, if_neg (by simp), heap_alloc_get, if_pos rfl]
  have k0 : W0.cell? ⟨w.heap.size, 0, none⟩ = some (.int .u64 0) ∧ W0.frozen? ⟨w.heap.size, 0, none⟩ = false := by
    refine ⟨?_, by simp [World.frozen?, hb0]⟩
    rw [cell_of_row W0 w.heap.size 0 _ _ (0, 0) hb0]; rfl
  have hb1 : W0.heap[w.heap.size + 1]? = some (.cells C 5 fr) := by
    rw [← hW0]; show (World.alloc _ _).heap[_]? = _; rw [heap_alloc_get, if_neg (by simp), heap_alloc_get, if_pos (by simp)]
  have hb2 : W0.heap[w.heap.size + 1 + 1]? = some (.cells #[.slice (some ⟨w.heap.size + 1, 0, none⟩) 4 cp] 29) := by
    rw [← hW0]; show (World.alloc _ _).heap[_]? = _; rw [heap_alloc_get, if_pos (by simp)]
  rw [hW0] at hB0 ⊢
  clear hW0 hb0 hrun
  have HE := Lib.hid (And.intro E0.out (And.intro E1.out (And.intro E2.out E3.out)))
  have HB0 := Lib.hid hB0
  have Hb1 := Lib.hid hb1
  have Hb2 := Lib.hid hb2
  clear hB0 hb1 hb2 E0 E1 E2 E3
  refine wpIn_rangeFunc_ownF (α := Unit) hro (by omega) (gf := 41) (lb := #[.pointer (some ⟨w.heap.size + 1 + 1, 0, none⟩)]) rfl trivial (enters_of Tryd.func41 (by kernel_rfl) rfl)
    (encs := fun _ => #[.int .u64 1701734764]) (Kp := KeepsTwo (w.heap.size + 1 + 1) (w.heap.size + 1)) (S := fun ys => ys = [()]) (Sp := fun _ => True) (N := 1) (w0 := W0)
    (fun l J Jx W hW _ _ hY h0 => words1 Fence.wide 2 trivial rfl (by omega) l _ (w.heap.size + 1) cp J Jx hY W ?c1 hcp hcp2 ?c2 ?c3 ?c4 ?c5 h0)
    (fun h1 h2 => ⟨h2.1.trans h1.1, h2.2.trans h1.2⟩) (fun W l o o' hl _ _ _ => ⟨World.putObj_heap_other (by omega), World.putObj_heap_other (by omega)⟩) (Below.refl _ _) (fun _ => rfl)
    (fun pre W => (W.cell? ⟨w.heap.size, 0, none⟩ = some (.int .u64 (pre.foldl (fun s _ => mixN s 1701734764) 0)) ∧ W.frozen? ⟨w.heap.size, 0, none⟩ = false) ∧ Below w.heap.size w W)
    (fun _ _ _ => False)
    (OwnFrom.and (Own.from (fun s A B row hs hg hr => ⟨cell_kept hs.1 hg hr, (frozen_kept hs.1 hg hr).trans hs.2⟩) _) (ownFrom_below (Nat.le_refl _) (by omega)))
    (fun _ _ _ _ _ hs _ _ => hs)
    ⟨k0, HB0.out⟩
    (fun _ => { tmps := #[.string ⟨#[108, 105, 110, 101]⟩, .slice (some ⟨g, 0, none⟩) 1 cap, undef, undef, .int .u64 0, .pointer (some ⟨w.heap.size, 0, none⟩), .int .u64 1701734764, undef, undef, .string ⟨#[108, 105, 110, 101]⟩, .slice (some ⟨w.heap.size + 1, 0, none⟩) 4 cp, .func (.func 41) #[] #[.pointer (some ⟨w.heap.size + 1 + 1, 0, none⟩)], .int .u64 1701734764, undef, undef, undef, undef, undef, undef, undef, undef, undef, undef, undef, undef, undef, undef, undef, undef, undef, undef, undef, undef, undef, undef, undef, undef, undef, undef], defers := [] }) ?assign ?body ?done ?stop
  case assign =>
    intro l x W K hK
    gi_wp2
    exact hK
  case body =>
    rintro l pre x W ⟨⟨hc, hf⟩, hB⟩ _
    gi_wp2_with (refine ⟨trivial, ?_⟩; gi_at_call 29; refine (CallsIn.inRound l (callsIn_wide.2 (mix_any _ _ _))).mono ?_; rintro e w' ⟨rfl, rfl⟩)
    refine ⟨KeepsOthers.setCell _ _ _, ⟨Below.heap_setCell W _ _ _ (by simp; omega), Below.heap_setCell W _ _ _ (by simp)⟩, ⟨?_, by rw [World.frozen?_setCell]; exact hf⟩, hB.setCell (p := ⟨w.heap.size, 0, none⟩) (Nat.le_refl _) _⟩
    rw [List.foldl_append]
    exact World.cell?_setCell_same' _ _ _ (by rw [hc]; rfl)
  case c1 =>
    refine (hW.cell (p := ⟨w.heap.size + 1 + 1, 0, none⟩) (by show w.heap.size + 1 + 1 < _; omega)).trans ?_
    rw [cell_of_row W0 _ 0 _ _ (0, 0) Hb2.out]; rfl
  case c2 =>
    refine (hW.cell (p := ⟨w.heap.size + 1, 0, none⟩) (by show w.heap.size + 1 < _; omega)).trans ?_
    rw [cell_of_row W0 _ 0 _ _ _ Hb1.out]; exact HE.out.1
  case c3 =>
    refine (hW.cell (p := ⟨w.heap.size + 1, 1, none⟩) (by show w.heap.size + 1 < _; omega)).trans ?_
    rw [cell_of_row W0 _ 1 _ _ _ Hb1.out]; exact HE.out.2.1
  case c4 =>
    refine (hW.cell (p := ⟨w.heap.size + 1, 2, none⟩) (by show w.heap.size + 1 < _; omega)).trans ?_
    rw [cell_of_row W0 _ 2 _ _ _ Hb1.out]; exact HE.out.2.2.1
  case c5 =>
    refine (hW.cell (p := ⟨w.heap.size + 1, 3, none⟩) (by show w.heap.size + 1 < _; omega)).trans ?_
    rw [cell_of_row W0 _ 3 _ _ _ Hb1.out]; exact HE.out.2.2.2
  case stop =>
    rintro D c pre W _ _ h _
    exact h.elim
  case done =>
    rintro D ys W hD rfl ⟨⟨hc, hf⟩, hB⟩ hK
    have hxW := (hB.cell (p := ⟨g, 0, none⟩) hg).trans hx
    have hne : g ≠ w.heap.size := by omega
    simp only [List.foldl_cons, List.foldl_nil] at hc
    clear HE HB0 Hb1 Hb2 k0 hx
    gi_wp2_with (refine ⟨trivial, ?_⟩; gi_at_call 29; refine (callsIn_wide.2 (mix_any _ _ _)).mono ?_; rintro e w' ⟨rfl, rfl⟩)
    obtain ⟨W2, hW2⟩ : ∃ W2, (W.setCell ⟨w.heap.size, 0, none⟩ (.int .u64 (mixN (mixN 0 1701734764) 4))).setCell ⟨w.heap.size, 0, none⟩ (.int .u64 (mixN (mixN (mixN 0 1701734764) 4) 1)) = W2 := ⟨_, rfl⟩
    have q1 : W2.cell? ⟨w.heap.size, 0, none⟩ = some (.int .u64 (mixN (mixN (mixN 0 1701734764) 4) 1)) := by
      rw [← hW2]; exact World.cell?_setCell_same' _ _ _ (by rw [World.cell?_setCell_same' _ _ _ (by rw [hc]; rfl)]; rfl)
    have q2 : W2.frozen? ⟨w.heap.size, 0, none⟩ = false := by rw [← hW2, World.frozen?_setCell, World.frozen?_setCell]; exact hf
    have q3 : Hid (Below w.heap.size w W2) := Lib.hid (by rw [← hW2]; exact (hB.setCell (p := ⟨w.heap.size, 0, none⟩) (Nat.le_refl _) _).setCell (p := ⟨w.heap.size, 0, none⟩) (Nat.le_refl _) _)
    have q4 : Hid (W2.heap[D]? = some (.deferred (some []))) := Lib.hid (by rw [← hW2, Below.heap_setCell _ _ _ _ (by simp; omega), Below.heap_setCell _ _ _ _ (by simp; omega)]; exact hK)
    have q5 : W2.cell? ⟨g, 0, none⟩ = some (.int .i64 x) := by rw [q3.out.cell (p := ⟨g, 0, none⟩) hg, ← hB.cell (p := ⟨g, 0, none⟩) hg]; exact hxW
    rw [hW2]
    clear hW2 hc hf hB hK hxW
    gi_loopw [28] (fun i wr => (i = .int .i64 0 ∧ W2 = wr) ∨ (i = .int .i64 1 ∧ wr.cell? ⟨w.heap.size, 0, none⟩ = some (.int .u64 (mixN (mixN (mixN (mixN 0 1701734764) 4) 1) (IntKind.u64.wrap x))) ∧ Hid (Below w.heap.size w wr) ∧ Hid (wr.heap[D]? = some (.deferred (some []))))) (fun i _ => 1 - (intOf i).toNat)
    case atStart => exact .inl ⟨rfl, rfl⟩
    case round =>
      rcases hrel with ⟨rfl, rfl⟩ | ⟨rfl, r1, r3, r4⟩
      · gi_wp2_with (refine ⟨trivial, ?_⟩; gi_at_call 29; refine (callsIn_wide.2 (mix_any _ _ _)).mono ?_; rintro e w' ⟨rfl, rfl⟩)
        refine ⟨.inr ⟨rfl, ?_, Lib.hid (q3.out.setCell (p := ⟨w.heap.size, 0, none⟩) (Nat.le_refl _) _), Lib.hid ((Below.heap_setCell _ _ _ _ (by simp; omega)).trans q4.out)⟩, by decide⟩
        exact World.cell?_setCell_same' _ _ _ (by rw [q1]; rfl)
      · gi_wp2_with (refine ⟨trivial, ?_⟩; gi_at_call 29; refine (callsIn_wide.2 (mix_any _ _ _)).mono ?_; rintro e w' ⟨rfl, rfl⟩)
        refine ⟨by simp, .inl ⟨_, _, rfl, run_takeDeferred r4.out, ?_⟩⟩
        exact ⟨_, results_tmp rfl _ _ _, rfl, r3.out.trans (belowK_b (w := w) (Nat.le_refl _) _ D _ _ (by omega) r4.out rfl rfl)⟩

theorem sum_any (g cap : Nat) (x : Int) (w : World) (hg : g < w.heap.size) (hcap : 1 ≤ cap) (hcap2 : cap ≤ 9223372036854775807) (hx : w.cell? ⟨g, 0, none⟩ = some (.int .i64 x)) :
    Calls Tryd.prog 22 #[.string ⟨#[108, 105, 110, 101]⟩, .slice (some ⟨g, 0, none⟩) 1 cap] w fun e w' => e = .returned (.int .u64 (sumN x)) ∧ Below w.heap.size w w' :=
  callsIn_wide.1 (sum_in g cap x w hg hcap hcap2 hx)

end Go.Proofs.YtndlecddgihihaaDoor
