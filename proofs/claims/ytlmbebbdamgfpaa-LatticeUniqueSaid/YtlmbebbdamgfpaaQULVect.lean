/- worldmintref06.Vector: some vector with small entries; worldmintref06.Zero. -/
import Derived.Test.YtlmbebbdamgfpaaQULLive
import Derived.Test.YtlmbebbdamgfpaaQURef01
set_option linter.unusedVariables false
set_option linter.unusedSimpArgs false
set_option linter.unusedVariables false
set_option linter.unusedSimpArgs false
namespace Go.Proofs.Ytlmbebbdamgfpaa
open Go.RowKit

set_option maxRecDepth 100000 in
set_option maxHeartbeats 8000000 in
theorem vector_any (v : Value) (zs : List Int) (len n : Nat) (w0 : World) (h : IntsAt w0 v zs len) (hn : n ≤ 1000) :
 Calls Try.prog 23 #[v, .int .i64 n] w0 fun e w' => Below w0.heap.size w0 w' ∧ ∃ u l, e = .returned u ∧ IntsOf w' u l ∧ l.length = n ∧ ∀ x ∈ l, -3 ≤ x ∧ x ≤ 3 := by
 have H := hZ h
 have HB := hZ (Below.refl w0.heap.size w0)
 clear h
 go_enter Try.func23, Try.ntmps23
 go_wp2_with (at_make; refine wpList_make_ints rfl rfl (n) rfl rfl rfl rfl (by omega) ?_)
 intro w1 h_9 hB hlt9
 obtain ⟨g, hb⟩ : ∃ b, w0.heap.size = b := ⟨_, rfl⟩
 rw [hb] at h_9 ⊢
 have Oc' := hZ h_9
 have hge_g : Hid (w0.heap.size ≤ g) := hZ (Nat.le_of_eq hb)
 have hlt_g : Hid (g < w1.heap.size) := hZ (by rw [← hb]; exact hlt9)
 clear h_9 hb hlt9
 replace HB := bT HB hB
 clear hB
 have Oc := Oc'
 clear Oc'
 go_wp2_with fail
 replace Oc : Hid (BlkC w1 g 3 ((List.replicate n (0 : Int)).map zv)) := hZ (by have h9 := Oc.o; simpa [zv] using h9)
 have HGg : Hid (w0.heap.size ≤ g) := hge_g
 clear hge_g hlt_g
 go_loopw [6] (fun i wr => ∃ (k : Nat) (cs : List Int), k ≤ n ∧ i = .int .i64 k ∧ Hid (cs.length = n ∧ ∀ x ∈ cs, -3 ≤ x ∧ x ≤ 3) ∧ Hid (BlkC wr g 3 (cs.map zv)) ∧ Hid (Below w0.heap.size w0 wr)) (fun i _ => n - (intOf i).toNat)
 case atStart => exact ⟨0, List.replicate n 0, by omega, rfl, hZ ⟨by simp, fun x hx => by rw [(List.mem_replicate.1 hx).2]; omega⟩, Oc, HB⟩
 case round =>
  clear Oc HB
  obtain ⟨k, cs, hk, rfl, HC, Oc, HB⟩ := hrel
  obtain ⟨w1, rfl⟩ : ∃ w' : World, w' = wr := ⟨_, rfl⟩
  by_cases hkc : k < n
  ·skip
   have k1 : (0 : Int) ≤ (k : Int) := by omega
   have k2 : (k : Int) < (n : Int) := by omega
   have HP4 := hZ (pick_any v zs len k 7 w1 (H.o.below (Nat.le_refl _) HB.o) (by omega) (by omega) (by omega))
   have R4 := pickN_range zs len k 7 (by omega)
   obtain ⟨z, hz⟩ : ∃ z, pickN zs len k 7 = z := ⟨_, rfl⟩
   rw [hz] at HP4 R4
   clear hz
   go_wp2_with fail
   refine HP4.o.mono ?_
   rintro e w9 ⟨rfl, hw9⟩
   replace hw9 := hw9.symm
   subst hw9
   clear HP4
   obtain ⟨z1, hz1⟩ : ∃ z1 : Int, z - 3 = z1 := ⟨_, rfl⟩
   have hz1w : IntKind.i64.wrap (z - 3) = z1 := by rw [IntWalk.i64_in _ (by omega)]; exact hz1
   have rz1 : -3 ≤ z1 ∧ z1 ≤ 3 := by omega
   obtain ⟨u9, e1⟩ : ∃ u, w1.cell? ⟨g, k, none⟩ = some u := ⟨_, (Oc.o.cell k).trans (List.getElem?_eq_getElem (by rw [List.length_map, HC.o.1]; exact hkc))⟩
   have e2 := Oc.o.frozen (k)
   obtain ⟨w2, hw⟩ : ∃ w', w1.setCell ⟨g, k, none⟩ (.int .i64 z1) = w' := ⟨_, rfl⟩
   have ho : Only (fun b => b = g) w1 w2 := by rw [← hw]; exact (Only.refl (fun b => b = g) _).set (p := ⟨g, k, none⟩) rfl _
   have hN : ∀ b, b = g → NoInt w1 b := fun b e => e ▸ Oc.o.noInt zv_noInt
   replace Oc := hZ ((by have h1 := Oc.o.set k (.int .i64 z1); rw [hw, show (Value.int .i64 z1) = zv z1 from rfl, ← List.map_set] at h1; exact h1))
   replace HB := hZ (below_only HB.o ho (fun b e => by have := HGg.o; omega) HB.o.size)
   clear ho hN
   replace HC : Hid ((cs.set k z1).length = n ∧ ∀ x ∈ cs.set k z1, -3 ≤ x ∧ x ≤ 3) := hZ ⟨by rw [List.length_set]; exact HC.o.1, fun x hx => by rcases List.mem_or_eq_of_mem_set hx with h9 | h9; exact HC.o.2 x h9; rw [h9]; exact rz1⟩
   generalize cs.set k z1 = cs at *
   go_wp2_with fail
   go_roundw
   case rel => exact ⟨k + 1, cs, by omega, by go_num, HC, Oc, HB⟩
   case measure => simp [intOf]; omega
  ·skip
   go_wp2_with fail
   go_ret
   obtain rfl : k = n := by omega
   exact ⟨HB.o, _, cs, rfl, IntsOf.lit Oc.o HC.o.1 hn, HC.o⟩
end Go.Proofs.Ytlmbebbdamgfpaa
