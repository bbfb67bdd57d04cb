/- The example of the section: its catalog. -/
import Derived.Test.YtfpcgjgkbniofaaGreatDoorGCheck
set_option linter.unusedVariables false
set_option linter.unusedSimpArgs false
namespace Go.Proofs.YtfpcgjgkbniofaaGreatDoor
open Go.RowKit

def exCat (n : Nat) : Cat := ⟨[[111, 114, 101], [98, 97, 114]], [⟨[115, 109, 101, 108, 116], false, 0, 1, [⟨0, 3⟩], [⟨1, 1⟩], []⟩, ⟨[99, 114, 117, 115, 104], false, 0, 1, [⟨1, 1⟩], [⟨0, n⟩], []⟩]⟩

theorem BlkC.new' {w : World} {g : Nat} (h : w.heap.size = g) (t : TypeId) (cs : List Value) : BlkC (w.alloc (.cells cs.toArray t)) g t cs := h ▸ BlkC.new w t cs

theorem amts_of_blk {w : World} {g : Nat} {t : TypeId} {a : Amt} (h : BlkC w g t (amtC a)) : AmtsAt w (.slice (some ⟨g, 0, none⟩) 1 1) [a] := by
  refine slice_of_blk (xs := [a]) (css := [amtC a]) (by simpa using h) (by simp [amtC]) rfl ?_ (by simp) (by simp)
  intro j h1 h2
  obtain rfl : j = 0 := by simp at h1; omega
  rfl
theorem amts_nil (w : World) : AmtsAt w (.slice none 0 0) [] := SliceOf.nil _ _ (by omega)

theorem ex_cat (n : Nat) (w : World) (o0 o4 o7 : Obj) (t1 t2 t3 t5 t6 t8 : TypeId) (g : Nat) (hg : w.heap.size = g) :
    CatAt (((((((((w.alloc o0).alloc (.cells #[.string ⟨#[111, 114, 101]⟩, .bool false, .bool false, .bool false, .int .i64 0, .int .i64 0, .int .i64 0, .string ⟨#[98, 97, 114]⟩, .bool false, .bool false, .bool false, .int .i64 0, .int .i64 0, .int .i64 0] t1)).alloc
      (.cells #[.int .i64 0, .int .i64 3] t2)).alloc (.cells #[.int .i64 1, .int .i64 1] t3)).alloc o4).alloc (.cells #[.int .i64 1, .int .i64 1] t5)).alloc (.cells #[.int .i64 0, .int .i64 n] t6)).alloc o7).alloc
      (.cells #[.string ⟨#[115, 109, 101, 108, 116]⟩, .bool false, .int .i64 0, .int .i64 0, .int .i64 1, .int .i64 1, .slice (some ⟨g + 1 + 1, 0, none⟩) 1 1, .slice (some ⟨g + 1 + 1 + 1, 0, none⟩) 1 1, .slice none 0 0,
        .string ⟨#[99, 114, 117, 115, 104]⟩, .bool false, .int .i64 0, .int .i64 0, .int .i64 1, .int .i64 1, .slice (some ⟨g + 1 + 1 + 1 + 1 + 1, 0, none⟩) 1 1, .slice (some ⟨g + 1 + 1 + 1 + 1 + 1 + 1, 0, none⟩) 1 1, .slice none 0 0] t8))
    (.slice (some ⟨g + 1, 0, none⟩) 2 2) (.slice (some ⟨g + 1 + 1 + 1 + 1 + 1 + 1 + 1 + 1, 0, none⟩) 2 2) (exCat n) := by
  have h1 := BlkC.new' (w := w.alloc o0) (g := g + 1) (by simp [hg]) t1 [.string ⟨#[111, 114, 101]⟩, .bool false, .bool false, .bool false, .int .i64 0, .int .i64 0, .int .i64 0, .string ⟨#[98, 97, 114]⟩, .bool false, .bool false, .bool false, .int .i64 0, .int .i64 0, .int .i64 0]
  generalize hw1 : (w.alloc o0).alloc _ = w1 at h1
  have s1 : w1.heap.size = g + 1 + 1 := by rw [← hw1]; simp [hg]
  have h2 := BlkC.new' (w := w1) s1 t2 (amtC ⟨0, 3⟩)
  replace h1 := h1.alloc (.cells #[.int .i64 0, .int .i64 3] t2)
  generalize hw2 : w1.alloc (.cells #[.int .i64 0, .int .i64 3] t2) = w2 at h1
  have s2 : w2.heap.size = g + 1 + 1 + 1 := by rw [← hw2]; simp [s1]
  replace h2 : BlkC w2 _ _ _ := hw2 ▸ h2
  have h3 := BlkC.new' (w := w2) s2 t3 (amtC ⟨1, 1⟩)
  replace h1 := (h1.alloc (.cells #[.int .i64 1, .int .i64 1] t3)).alloc o4
  replace h2 := (h2.alloc (.cells #[.int .i64 1, .int .i64 1] t3)).alloc o4
  replace h3 := h3.alloc o4
  generalize hw4 : (w2.alloc (.cells #[.int .i64 1, .int .i64 1] t3)).alloc o4 = w4 at h1 h2
  replace h3 : BlkC w4 _ _ _ := hw4 ▸ h3
  have s4 : w4.heap.size = g + 1 + 1 + 1 + 1 + 1 := by rw [← hw4]; simp [s2]
  have h5 := BlkC.new' (w := w4) s4 t5 (amtC ⟨1, 1⟩)
  replace h1 := h1.alloc (.cells #[.int .i64 1, .int .i64 1] t5)
  replace h2 := h2.alloc (.cells #[.int .i64 1, .int .i64 1] t5)
  replace h3 := h3.alloc (.cells #[.int .i64 1, .int .i64 1] t5)
  generalize hw5 : w4.alloc (.cells #[.int .i64 1, .int .i64 1] t5) = w5 at h1 h2 h3
  replace h5 : BlkC w5 _ _ _ := hw5 ▸ h5
  have s5 : w5.heap.size = g + 1 + 1 + 1 + 1 + 1 + 1 := by rw [← hw5]; simp [s4]
  have h6 := BlkC.new' (w := w5) s5 t6 (amtC ⟨0, n⟩)
  replace h1 := (h1.alloc (.cells #[.int .i64 0, .int .i64 n] t6)).alloc o7
  replace h2 := (h2.alloc (.cells #[.int .i64 0, .int .i64 n] t6)).alloc o7
  replace h3 := (h3.alloc (.cells #[.int .i64 0, .int .i64 n] t6)).alloc o7
  replace h5 := (h5.alloc (.cells #[.int .i64 0, .int .i64 n] t6)).alloc o7
  replace h6 := h6.alloc o7
  generalize hw7 : (w5.alloc (.cells #[.int .i64 0, .int .i64 n] t6)).alloc o7 = w7 at h1 h2 h3 h5
  replace h6 : BlkC w7 _ _ _ := hw7 ▸ h6
  have s7 : w7.heap.size = g + 1 + 1 + 1 + 1 + 1 + 1 + 1 + 1 := by rw [← hw7]; simp [s5]
  have h8 := BlkC.new' (w := w7) s7 t8 (rulC ⟨[115, 109, 101, 108, 116], false, 0, 1, [⟨0, 3⟩], [⟨1, 1⟩], []⟩ (.slice (some ⟨g + 1 + 1, 0, none⟩) 1 1) (.slice (some ⟨g + 1 + 1 + 1, 0, none⟩) 1 1) (.slice none 0 0) ++ rulC ⟨[99, 114, 117, 115, 104], false, 0, 1, [⟨1, 1⟩], [⟨0, n⟩], []⟩ (.slice (some ⟨g + 1 + 1 + 1 + 1 + 1, 0, none⟩) 1 1) (.slice (some ⟨g + 1 + 1 + 1 + 1 + 1 + 1, 0, none⟩) 1 1) (.slice none 0 0))
  refine ⟨?_, ?_⟩
  · refine slice_of_blk (xs := (exCat n).items) (css := [itmC [111, 114, 101], itmC [98, 97, 114]]) (h1.alloc _) (by simp [itmC]) rfl ?_ (by simp [exCat]) (by simp)
    intro j h1 h2
    have : j = 0 ∨ j = 1 := by simp [exCat] at h1; omega
    rcases this with rfl | rfl <;> rfl
  · refine slice_of_blk (xs := (exCat n).rules) (css := [rulC ⟨[115, 109, 101, 108, 116], false, 0, 1, [⟨0, 3⟩], [⟨1, 1⟩], []⟩ (.slice (some ⟨g + 1 + 1, 0, none⟩) 1 1) (.slice (some ⟨g + 1 + 1 + 1, 0, none⟩) 1 1) (.slice none 0 0), rulC ⟨[99, 114, 117, 115, 104], false, 0, 1, [⟨1, 1⟩], [⟨0, n⟩], []⟩ (.slice (some ⟨g + 1 + 1 + 1 + 1 + 1, 0, none⟩) 1 1) (.slice (some ⟨g + 1 + 1 + 1 + 1 + 1 + 1, 0, none⟩) 1 1) (.slice none 0 0)]) h8 (by simp [rulC]) rfl ?_ (by simp [exCat]) (by simp)
    intro j hj1 hj2
    have : j = 0 ∨ j = 1 := by simp [exCat] at hj1; omega
    rcases this with rfl | rfl
    · exact ⟨_, _, _, rfl, amts_of_blk (h2.alloc _), amts_of_blk (h3.alloc _), amts_nil _⟩
    · exact ⟨_, _, _, rfl, amts_of_blk (h5.alloc _), amts_of_blk (h6.alloc _), amts_nil _⟩

theorem ex_word (n : Tx) (h : n ∈ [[111, 114, 101], [98, 97, 114], [115, 109, 101, 108, 116], [99, 114, 117, 115, 104]]) : WordT n := by
  simp only [List.mem_cons, List.not_mem_nil, or_false] at h
  rcases h with rfl | rfl | rfl | rfl <;> exact ⟨by decide, by rfl⟩

theorem good1 {n M K it k : Nat} (h1 : it < n) (h2 : 1 ≤ k) (h3 : k ≤ M) (h4 : 1 ≤ K) : GoodL n M K [⟨it, k⟩] := ⟨by simp [SortedA], by simp; omega, by simpa⟩
theorem good0 {n M K : Nat} : GoodL n M K [] := ⟨by simp [SortedA], by simp, by simp⟩
theorem ex_fine (n : Nat) (h1 : 1 ≤ n) (h2 : n ≤ 100) : Fine (exCat n) := by
  refine ⟨⟨by simp [exCat], by simp [exCat], by simp [exCat], ?_⟩, ⟨?_, ?_⟩, by simp [exCat], by simp [exCat]⟩
  · intro r hr
    simp only [exCat, List.mem_cons, List.not_mem_nil, or_false] at hr
    rcases hr with rfl | rfl
    · exact ⟨good1 (by simp [exCat]) (by omega) (by omega) (by omega), good1 (by simp [exCat]) (by omega) (by omega) (by omega), good0, by simp, by simp, by simp, by simp, by simp, by simp, by simp⟩
    · exact ⟨good1 (by simp [exCat]) (by omega) (by omega) (by omega), good1 (by simp [exCat]) (by omega) (by omega) (by omega), good0, by simp, by simp, by simp, by simp, by simp, by simp, by simp⟩
  · intro n hn
    simp only [exCat, List.mem_cons, List.not_mem_nil, or_false] at hn
    exact ex_word n (by simp only [List.mem_cons]; rcases hn with h | h <;> simp [h])
  · intro r hr
    simp only [exCat, List.mem_cons, List.not_mem_nil, or_false] at hr
    rcases hr with rfl | rfl
    · exact ex_word _ (by simp)
    · exact ex_word _ (by simp)

set_option maxRecDepth 100000 in
set_option maxHeartbeats 2000000 in
theorem example_any (n : Nat) (hn : n ≤ 100) (w : World) : Calls Tryz.prog 39 #[.int .i64 (n : Int)] w fun e w' => (∃ vi vr, e = .returned (catV vi vr) ∧ CatAt w' vi vr (exCat n)) ∧ Below w.heap.size w w' := by
  go_enter Tryz.func39, Tryz.ntmps39
  go_wp2_with fail
  refine bodyPost_ret (v := catV (.slice (some ⟨w.heap.size + 1, 0, none⟩) 2 2) (.slice (some ⟨w.heap.size + 1 + 1 + 1 + 1 + 1 + 1 + 1 + 1, 0, none⟩) 2 2)) (by simp [results, Tryz.results39, go_sem, catV]) rfl ⟨⟨_, _, rfl, ex_cat n w _ _ _ _ _ _ _ _ _ _ rfl⟩, ?_⟩
  repeat refine Below.alloc ?_ (by simp <;> omega) _
  exact Below.refl _ _
end Go.Proofs.YtfpcgjgkbniofaaGreatDoor
