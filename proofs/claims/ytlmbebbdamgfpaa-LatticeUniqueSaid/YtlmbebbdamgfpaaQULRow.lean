/- Rows of wide integers under calls that turn some blocks; lists of lines in memory. -/
import Derived.Test.YtlmbebbdamgfpaaQULSz
import Derived.Test.YtlmbebbdamgfpaaQULMat
import Derived.Test.YtlmbebbdamgfpaaQURegLate
set_option linter.unusedVariables false
set_option linter.unusedSimpArgs false
set_option linter.unusedVariables false
set_option linter.unusedSimpArgs false
namespace Go.Proofs.Ytlmbebbdamgfpaa
open Go.RowKit

theorem zeroCells_mem {z : Array Value} {n : Nat} {u : Value} (h : u ∈ Builtin.zeroCells z n) (hz : 0 < z.size) : u ∈ z := by
 unfold Builtin.zeroCells at h
 obtain ⟨i, hi, rfl⟩ := Array.mem_map.1 h
 have : i % z.size < z.size := Nat.mod_lt _ hz
 rw [getElem!_pos z _ this]
 exact Array.getElem_mem this
/-- append(nil, row...) of wide integers: the new block is known whole -/
theorem wpList_appW {w : World} {ops : Array Oper} {rest : List Oper} {o : Oper} {a : Act} {Q : Exit → Act → World → Prop} (hgd : o.guard = none) (s x : Operand)
 (ho : o.op = .call { callee := .builtin .append, args := #[s, x], argTypes := #[55, 55] })
 (hs : a.eval s = .slice none 0 0) (g m c : Nat) (cs : List Value) (hx : a.eval x = .slice (some ⟨g, 0, none⟩) m c) (hcs : cs.length = m * 2) (hnews : ∀ j u, cs[j]? = some u → w.cell? ⟨g, j, none⟩ = some u)
 (h0 : 0 < m) (hm : m ≤ 1000000)
 (h : ∀ (cap : Nat) (tl : List Value), m ≤ cap → cap ≤ 9223372036854775807 → (∀ u ∈ tl, u = .bool false ∨ u = .slice none 0 0) → wpList Try.prog ops Q rest (a.put o.dst (.slice (some ⟨w.heap.size, 0, none⟩) m cap)) (w.drew.alloc (.cells (cs ++ tl).toArray 58))) : wpList Try.prog ops Q (o :: rest) a w := by
 have hE : Elem Try.prog 55 58 2 32 := Elem.mk (z := .agg #[.bool false, .slice none 0 0]) Try.underlying55 (by kernel_rfl) rfl (by decide)
 have hz0 : (Try.prog.info? 58).map (fun i => (i.zero, i.size, i.bytes)) = some (some (.agg #[.bool false, .slice none 0 0]), 2, 32) := by kernel_rfl
 obtain ⟨i, hi, hz, hsize, hbyt⟩ := info_parts hz0
 refine wpList_plain hgd fun K hK => ?_
 have hr := run_append_nil (P := Try.prog) w 55 o.type 58 i _ hE.1 hi hz ⟨g, 0, none⟩ m c cs (by rw [hcs, hsize]) (fun j v hj => by
  have hadd : (⟨g, 0, none⟩ : Addr).add j = ⟨g, j, none⟩ := by unfold Addr.add; split <;> simp_all
  rw [hadd]; exact hnews j v hj) h0 (by omega) (by rw [hbyt]; omega)
 unfold Oper.wp execOp
 simp only [ho, resolve, invoke, builtin, Sem.run_bind, Sem.run_pure, Result.andThen_ok, List.map_toArray, List.map_cons, List.map_nil, hs, hx, hr]
 have hcap := grownCap_ge w m 0 58
 have hcap2 := grownCap_le_maxLen w m 0 58 (by unfold maxLen; omega)
 have hh := h (grownCap w m 0 58) (Builtin.zeroCells (Value.agg #[.bool false, .slice none 0 0]).cells (grownCap w m 0 58 - m)).toList hcap (by unfold maxLen at hcap2; omega) (fun u hu => by
  have h2 := zeroCells_mem (Array.mem_toList_iff.1 hu) (by simp [Value.cells])
  simpa [Value.cells] using h2)
 have he : (cs ++ (Builtin.zeroCells (Value.agg #[.bool false, .slice none 0 0]).cells (grownCap w m 0 58 - m)).toList).toArray = cs.toArray ++ Builtin.zeroCells (Value.agg #[.bool false, .slice none 0 0]).cells (grownCap w m 0 58 - m) := by
  apply Array.ext'
  simp
 rw [he] at hh
 exact hK _ _ hh
end Go.Proofs.Ytlmbebbdamgfpaa
set_option linter.unusedVariables false
set_option linter.unusedSimpArgs false
namespace Go.Proofs.Ytlmbebbdamgfpaa
open Go.RowKit

section
variable {S : Nat → Prop} {w w' w0 : World}
theorem RowAt.only {v : Value} {L : List Nat} (h : RowAt .u32 w v L) (ho : Only S w w') (hS : ∀ b, S b → NoInt w b) : RowAt .u32 w' v L := by
 obtain ⟨a, cap, hv, h1, h2, hc⟩ := h
 refine ⟨a, cap, hv, h1, h2, fun h0 => ?_⟩
 obtain ⟨b, off, ha, hlt, hcc⟩ := hc h0
 have hn : ¬ S b := fun hs => hS b hs _ _ (hcc 0 h0)
 exact ⟨b, off, ha, Nat.lt_of_lt_of_le hlt ho.size, fun j hj => (ho.cell (p := ⟨b, off + j, none⟩) hn hlt).trans (hcc j hj)⟩
theorem WInt.only {v : Value} {z : Int} (h : WInt w v z) (ho : Only S w w') (hS : ∀ b, S b → NoInt w b) : WInt w' v z := by
 obtain ⟨vw, hv, hm⟩ := h
 exact ⟨vw, hv, RowAt.only hm ho hS⟩
theorem Bx.only {b : Nat} {z : Int} (h : Bx w b z) (ho : Only S w w') (hS : ∀ b, S b → NoInt w b) (hn : ¬ S b) : Bx w' b z := by
 obtain ⟨s, a, n, c, h1, h2⟩ := h
 exact ⟨s, a, n, c, (ho.block b h1.lt hn).trans h1, h2.only ho hS⟩
theorem WCs.only {cs : List Value} {zs : List Int} (h : WCs w cs zs) (ho : Only S w w') (hS : ∀ b, S b → NoInt w b) : WCs w' cs zs := by
 refine ⟨h.1, h.2.1, fun j hj => ?_⟩
 obtain ⟨a, n, c, h1, h2, h3⟩ := h.2.2 j hj
 exact ⟨a, n, c, h1, h2, h3.only ho hS⟩
theorem WRow.only {g : Nat} {zs : List Int} (h : WRow w g zs) (ho : Only S w w') (hS : ∀ b, S b → NoInt w b) (hn : ¬ S g) : WRow w' g zs := by
 obtain ⟨cs, h1, h2⟩ := h
 exact ⟨cs, h1.only ho hn, h2.only ho hS⟩
theorem Only.off' {g o1 o2 : Nat} {s : Bool} {a : Option Addr} {n c : Nat} (h : Only S w0 w) (hg : S g ∨ w0.heap.size ≤ g) : Only S w0 (st2 w g o1 o2 s a n c) := by
 refine ⟨h.os, h.tape, h.output, by rw [st2_size]; exact h.size, fun k hk hn => ?_⟩
 have hne : k ≠ g := by rintro rfl; rcases hg with h1 | h1; exact hn h1; omega
 exact (Below.heap_setCell _ ⟨g, o2, none⟩ _ k hne).trans ((Below.heap_setCell w ⟨g, o1, none⟩ _ k hne).trans (h.block k hk hn))
theorem Only.blw (h : Only S w0 w) (hb : Below w.heap.size w w') : Only S w0 w' := h.trans (Only.of_below hb)
end

theorem cmp3_nz {x : Int} (h : x ≠ 0) : ∃ sg, cmp3 x 0 = sg ∧ (sg != 0) = true ∧ (sg == 0) = false := by
 refine ⟨_, rfl, ?_, ?_⟩
 ·rw [cmp3_ne]; simpa using h
 ·have := cmp3_ne x
  have h2 : (cmp3 x 0 != 0) = true := by rw [this]; simpa using h
  simpa using h2
theorem td_len {α : Type} {A B : List α} {j : Nat} (h : A.length = B.length) (hj : j ≤ B.length) : (A.take j ++ B.drop j).length = B.length := by simp; omega
theorem td_at {α : Type} {A B : List α} {j : Nat} (h : A.length = B.length) (hj : j < B.length) : (A.take j ++ B.drop j)[j]'(by rw [td_len h (by omega)]; exact hj) = B[j] := by
 rw [List.getElem_append_right (by simp; omega)]
 simp [h, Nat.min_eq_left (Nat.le_of_lt hj)]
theorem td_set {α : Type} {A B : List α} {j : Nat} (h : A.length = B.length) (hj : j < B.length) : (A.take j ++ B.drop j).set j (A[j]'(by omega)) = A.take (j + 1) ++ B.drop (j + 1) := by
 refine List.ext_getElem (by simp; omega) (fun k h1 h2 => ?_)
 rw [List.getElem_set]
 split
 ·next e =>
  subst e
  rw [List.getElem_append_left (by simp; omega), List.getElem_take]
 ·next e =>
  rcases Nat.lt_or_ge k j with hk | hk
  ·rw [List.getElem_append_left (by simp; omega), List.getElem_append_left (by simp; omega), List.getElem_take, List.getElem_take]
  ·rw [List.getElem_append_right (by simp; omega), List.getElem_append_right (by simp; omega), List.getElem_drop, List.getElem_drop]
   have h3 : (A.take j).length = j := by simp; omega
   have h4 : (A.take (j + 1)).length = j + 1 := by simp; omega
   congr 1
   omega
section
variable {w w' w0 : World} {g o1 o2 b : Nat} {s : Bool} {a : Option Addr} {n c : Nat} {z : Int}
theorem Only.offe {S : Nat → Prop} (h : Only S w0 w) (e : st2 w g o1 o2 s a n c = w') (hg : S g ∨ w0.heap.size ≤ g) : Only S w0 w' := e ▸ h.off' hg
end
end Go.Proofs.Ytlmbebbdamgfpaa
