/- Memory: a block known whole, a slice of numbers that is read, make and copy. -/
import Derived.Test.YtlmbebbdamgfpaaQUDecimal
import Derived.Below
import Derived.Lib.Hide
import Derived.Laws.OwnMore
import Derived.Laws.Rows
import Derived.Laws.CopyOwn
import Derived.Deep.Draws
import Derived.OwnWalk
import Derived.WalkKit
set_option linter.unusedVariables false
set_option linter.unusedSimpArgs false
namespace Go.Proofs.Ytlmbebbdamgfpaa
open Go.RowKit

def iv (k : IntKind) (x : Nat) : Value := .int k (x : Int)

/-- block g is just the numbers L -/
def Blk (w : World) (g : Nat) (t : TypeId) (k : IntKind) (L : List Nat) : Prop := w.heap[g]? = some (.cells (L.map (iv k)).toArray t (0, 0))

section
variable {w w' : World} {g : Nat} {t : TypeId} {k : IntKind} {L : List Nat}
theorem Blk.lt (h : Blk w g t k L) : g < w.heap.size := by
 rcases Nat.lt_or_ge g w.heap.size with hlt | hge
 ·exact hlt
 ·unfold Blk at h; rw [Array.getElem?_eq_none hge] at h; cases h
theorem Blk.heap (h : Blk w g t k L) : w.heap[g]? = some (.cells (L.map (iv k)).toArray t (0, 0)) := h
theorem Blk.cell (h : Blk w g t k L) (i : Nat) (hi : i < L.length) : w.cell? ⟨g, i, none⟩ = some (.int k (L[i] : Int)) := by
 rw [cell_of_row w g i _ t (0, 0) h]
 simp [hi, iv]
theorem Blk.frozen (h : Blk w g t k L) (i : Nat) : w.frozen? ⟨g, i, none⟩ = false := by
 unfold Blk at h
 simp [World.frozen?, h]
theorem Blk.below {B : Nat} (h : Blk w g t k L) (hb : Below B w w') (hg : g < B) : Blk w' g t k L := (hb.block g hg).trans h
theorem Blk.set (h : Blk w g t k L) (i : Nat) (x : Nat) : Blk (w.setCell ⟨g, i, none⟩ (.int k (x : Int))) g t k (L.set i x) := by
 unfold Blk at h ⊢
 simp [World.setCell, Array.getElem?_modify, h, iv]
theorem Blk.far (h : Blk w g t k L) {p : Addr} (hp : g ≠ p.block) (u : Value) : Blk (w.setCell p u) g t k L := (Below.heap_setCell w p u g hp).trans h
theorem Blk.drewN (h : Blk w g t k L) (n : Nat) : Blk (w.drewN n) g t k L := h
theorem Blk.drew (h : Blk w g t k L) : Blk w.drew g t k L := h
theorem Blk.alloc (h : Blk w g t k L) (o : Obj) : Blk (w.alloc o) g t k L := (Below.heap_alloc w o g h.lt).trans h
end

/-- a slice value that reads as numbers -/
def RowAt (k : IntKind) (w : World) (v : Value) (L : List Nat) : Prop :=
 ∃ a cap, v = .slice a L.length cap ∧ L.length ≤ cap ∧ cap ≤ 9223372036854775807 ∧ (0 < L.length → ∃ b off, a = some ⟨b, off, none⟩ ∧ b < w.heap.size ∧ ∀ j (h : j < L.length), w.cell? ⟨b, off + j, none⟩ = some (.int k (L[j] : Int)))

section
variable {k : IntKind} {w w' : World} {v : Value} {L : List Nat}
theorem RowAt.below {B : Nat} (h : RowAt k w v L) (hB : w.heap.size ≤ B) (hb : Below B w w') : RowAt k w' v L := by
 obtain ⟨a, cap, hv, h1, h2, hc⟩ := h
 refine ⟨a, cap, hv, h1, h2, fun h0 => ?_⟩
 obtain ⟨b, off, ha, hlt, hcc⟩ := hc h0
 exact ⟨b, off, ha, Nat.lt_of_lt_of_le hlt hb.size, fun j hj => (hb.cell (p := ⟨b, off + j, none⟩) (Nat.lt_of_lt_of_le hlt hB)).trans (hcc j hj)⟩
theorem RowAt.nil (a : Option Addr) (cap : Nat) (hc : cap ≤ 9223372036854775807) : RowAt k w (.slice a 0 cap) [] := ⟨a, cap, rfl, by simp, hc, fun h => by simp at h⟩
theorem RowAt.of_blk {g : Nat} {t : TypeId} {cap : Nat} (h : Blk w g t k L) (h1 : L.length ≤ cap) (h2 : cap ≤ 9223372036854775807) : RowAt k w (.slice (some ⟨g, 0, none⟩) L.length cap) L :=
 ⟨_, cap, rfl, h1, h2, fun _ => ⟨g, 0, rfl, h.lt, fun j hj => by rw [Nat.zero_add]; exact h.cell j hj⟩⟩
/-- the first n of them -/
theorem RowAt.take (h : RowAt k w v L) (n : Nat) (hn : n ≤ L.length) : ∃ a cap, v = .slice a L.length cap ∧ L.length ≤ cap ∧ cap ≤ 9223372036854775807 ∧ RowAt k w (.slice a n cap) (L.take n) := by
 obtain ⟨a, cap, hv, h1, h2, hc⟩ := h
 have hl : (L.take n).length = n := by rw [List.length_take]; omega
 refine ⟨a, cap, hv, h1, h2, a, cap, by rw [hl], by omega, h2, fun h0 => ?_⟩
 obtain ⟨b, off, ha, hlt, hcc⟩ := hc (by omega)
 exact ⟨b, off, ha, hlt, fun j hj => by rw [List.getElem_take]; exact hcc j (by omega)⟩
theorem RowAt.at_ (h : RowAt k w v L) {j : Nat} (hj : j < L.length) : ∃ b off cap, v = .slice (some ⟨b, off, none⟩) L.length cap ∧ b < w.heap.size ∧ w.cell? ⟨b, off + j, none⟩ = some (.int k (L[j] : Int)) := by
 obtain ⟨a, cap, rfl, h1, h2, hc⟩ := h
 obtain ⟨b, off, rfl, hlt, hcc⟩ := hc (by omega)
 exact ⟨b, off, cap, rfl, hlt, hcc j hj⟩
end

theorem below_of_grown {w w' : World} (h : w.grownBy w' none) : Below w.heap.size w w' := ⟨h.os, h.tape, h.output, h.size, fun k hk => h.block k hk (by simp)⟩

theorem madeCells_one (k : IntKind) (n : Nat) : (madeCells (Value.int k 0).cells (n * 1)).toList = (List.replicate n 0).map (iv k) := by
 simp [madeCells, Value.cells, iv, Nat.mod_one, List.map_const']

/-- make([]T, n) for a number type -/
theorem wpList_make_blk {P : Program} (w : World) {ops : Array Oper} {rest : List Oper} {o : Oper} {a : Act} {Q : Exit → Act → World → Prop}
 (hg : o.guard = none) (l c : Operand) (t : TypeId) (hop : o.op = Op.makeSlice t l c)
 (e : TypeId) (i : TypeInfo) (k : IntKind) (h1 : P.underlying t = some (.slice e)) (h2 : P.info? e = some i) (h3 : i.zero = some (.int k 0)) (h4 : i.size = 1)
 (kl kc : IntKind) (A C : Int) (n : Nat) (hl : a.eval l = .int kl A) (hc : a.eval c = .int kc C) (hA : A = (n : Int)) (hC : C = (n : Int)) (b2 : i.bytes * n ≤ 281474976710656) (b3 : n ≤ 9223372036854775807)
 (hK : ∀ w', Blk w' w.heap.size e k (List.replicate n 0) → Below w.heap.size w w' → w.heap.size < w'.heap.size → wpList P ops Q rest (a.put o.dst (.slice (some ⟨w.heap.size, 0, none⟩) n n)) w') :
 wpList P ops Q (o :: rest) a w := by
 refine wpList_make_full w hg l c t hop w.heap.size e i _ 1 h1 h2 h3 h4 kl kc A C n hl hc hA hC b2 (by unfold maxLen; exact b3) (Nat.le_refl _) ?_
 intro w' hown hgr
 rw [madeCells_one] at hown
 have hblk : Blk w' w.heap.size e k (List.replicate n 0) := by
  rcases hown.2 with ⟨hv, _⟩ | ⟨g, cap, cur, hv, _, hb, hn, hm, hs, ht⟩
  ·cases hv
  ·injection hv with hv1 hv2 hv3
   injection hv1 with hv1
   injection hv1 with hv1
   subst hv1 hv3
   unfold Blk
   rw [hb]
   have : cur.toList = (List.replicate n 0).map (iv k) := by
    rw [← ht, List.take_of_length_le]
    rw [Array.length_toList, hs]
    exact Nat.le_refl _
   rw [← this]
 exact hK w' hblk (below_of_grown hgr) hblk.lt

theorem RowAt.cells {k : IntKind} {w : World} {a : Option Addr} {n cap : Nat} {L : List Nat} (h : RowAt k w (.slice a n cap) L) (h0 : 0 < L.length) : ∃ ad, a = some ad ∧ ∀ j u, (L.map (iv k))[j]? = some u → w.cell? (ad.add j) = some u := by
 obtain ⟨a', cap', hv, _, _, hc⟩ := h
 injection hv with e1 e2 e3
 subst e1
 obtain ⟨b, off, rfl, hb, hcc⟩ := hc h0
 refine ⟨_, rfl, fun j u hu => ?_⟩
 have hj : j < L.length := by
  rcases Nat.lt_or_ge j L.length with h | h
  ·exact h
  ·rw [List.getElem?_eq_none (by rw [List.length_map]; exact h)] at hu; cases hu
 have hadd : (⟨b, off, none⟩ : Addr).add j = ⟨b, off + j, none⟩ := by unfold Addr.add; split <;> simp_all
 rw [List.getElem?_map, List.getElem?_eq_getElem hj] at hu
 rw [hadd, hcc j hj]
 exact hu

/-- block b is the one cell v -/
def One (w : World) (b : Nat) (t : TypeId) (v : Value) : Prop := w.heap[b]? = some (.cells #[v] t (0, 0))

section
variable {w w' : World} {b : Nat} {t : TypeId} {v : Value}
theorem One.lt (h : One w b t v) : b < w.heap.size := by
 rcases Nat.lt_or_ge b w.heap.size with hlt | hge
 ·exact hlt
 ·unfold One at h; rw [Array.getElem?_eq_none hge] at h; cases h
theorem One.cell (h : One w b t v) : w.cell? ⟨b, 0, none⟩ = some v := by
 rw [cell_of_row w b 0 _ t (0, 0) h]; rfl
theorem One.frozen (h : One w b t v) : w.frozen? ⟨b, 0, none⟩ = false := by
 unfold One at h
 simp [World.frozen?, h]
theorem One.below {B : Nat} (h : One w b t v) (hb : Below B w w') (hg : b < B) : One w' b t v := (hb.block b hg).trans h
theorem One.set (h : One w b t v) (u : Value) : One (w.setCell ⟨b, 0, none⟩ u) b t u := by
 unfold One at h ⊢
 simp [World.setCell, Array.getElem?_modify, h]
theorem One.far (h : One w b t v) {p : Addr} (hp : b ≠ p.block) (u : Value) : One (w.setCell p u) b t v := (Below.heap_setCell w p u b hp).trans h
theorem One.drewN (h : One w b t v) (n : Nat) : One (w.drewN n) b t v := h
theorem One.drew (h : One w b t v) : One w.drew b t v := h
theorem One.new (w : World) (t : TypeId) (v : Value) : One (w.alloc (.cells #[v] t)) w.heap.size t v := heap_alloc_new w _
theorem One.alloc (h : One w b t v) (o : Obj) : One (w.alloc o) b t v := (Below.heap_alloc w o b h.lt).trans h
end

/-- nothing has turned but the blocks of S -/
structure Only (S : Nat → Prop) (w w' : World) : Prop where
 os : w'.os = w.os
 tape : w'.tape = w.tape
 output : w'.output = w.output
 size : w.heap.size ≤ w'.heap.size
 block : ∀ k, k < w.heap.size → ¬ S k → w'.heap[k]? = w.heap[k]?

section
variable {S S' : Nat → Prop} {w w' w'' : World}
theorem Only.refl (S : Nat → Prop) (w : World) : Only S w w := ⟨rfl, rfl, rfl, Nat.le_refl _, fun _ _ _ => rfl⟩
theorem Only.trans (h : Only S w w') (h' : Only S w' w'') : Only S w w'' :=
 ⟨h'.os.trans h.os, h'.tape.trans h.tape, h'.output.trans h.output, Nat.le_trans h.size h'.size, fun k hk hS => (h'.block k (Nat.lt_of_lt_of_le hk h.size) hS).trans (h.block k hk hS)⟩
theorem Only.mono (h : Only S w w') (hS : ∀ k, S k → S' k) : Only S' w w' := ⟨h.os, h.tape, h.output, h.size, fun k hk hn => h.block k hk (fun hs => hn (hS k hs))⟩
theorem Only.set (h : Only S w w') {p : Addr} (hp : S p.block) (u : Value) : Only S w (w'.setCell p u) :=
 ⟨h.os, h.tape, h.output, by rw [show (w'.setCell p u).heap.size = w'.heap.size by simp [World.setCell]]; exact h.size, fun k hk hn => (Below.heap_setCell w' p u k (fun e => hn (e ▸ hp))).trans (h.block k hk hn)⟩
theorem Only.drew (h : Only S w w') : Only S w w'.drew := ⟨h.os, h.tape, h.output, h.size, h.block⟩
theorem Only.drewN (h : Only S w w') (n : Nat) : Only S w (w'.drewN n) := ⟨h.os, h.tape, h.output, h.size, h.block⟩
theorem Only.of_below (h : Below w.heap.size w w') : Only S w w' := ⟨h.os, h.tape, h.output, h.size, fun k hk _ => h.block k hk⟩
theorem Only.below {B : Nat} {w0 : World} (h : Only S w w') (hb : Below B w0 w) (hB : B ≤ w.heap.size) (hS : ∀ k, S k → B ≤ k) : Below B w0 w' :=
 ⟨h.os.trans hb.os, h.tape.trans hb.tape, h.output.trans hb.output, Nat.le_trans hb.size h.size, fun k hk => (h.block k (by omega) (fun hs => by have := hS k hs; omega)).trans (hb.block k hk)⟩
theorem Only.cell (h : Only S w w') {p : Addr} (hp : ¬ S p.block) (hl : p.block < w.heap.size) : w'.cell? p = w.cell? p := World.cell?_of_block (w := w) (h.block _ hl hp)
theorem Only.row (h : Only S w w') {k : IntKind} {v : Value} {L : List Nat} (hr : RowAt k w v L) (hS : ∀ b off cap, v = .slice (some ⟨b, off, none⟩) L.length cap → ¬ S b) : RowAt k w' v L := by
 obtain ⟨a, cap, hv, h1, h2, hc⟩ := hr
 refine ⟨a, cap, hv, h1, h2, fun h0 => ?_⟩
 obtain ⟨b, off, ha, hlt, hcc⟩ := hc h0
 exact ⟨b, off, ha, Nat.lt_of_lt_of_le hlt h.size, fun j hj => (h.cell (p := ⟨b, off + j, none⟩) (hS b off cap (by rw [hv, ha])) hlt).trans (hcc j hj)⟩
theorem Only.blk (h : Only S w w') {g : Nat} {t : TypeId} {k : IntKind} {L : List Nat} (hb : Blk w g t k L) (hS : ¬ S g) : Blk w' g t k L := (h.block g hb.lt hS).trans hb
theorem Only.one (h : Only S w w') {g : Nat} {t : TypeId} {v : Value} (hb : One w g t v) (hS : ¬ S g) : One w' g t v := (h.block g hb.lt hS).trans hb
end

/-- copy(d, s) into a block of one's own -/
theorem wpList_copy_blk {P : Program} {w : World} {ops : Array Oper} {rest : List Oper} {o : Oper} {a : Act} {Q : Exit → Act → World → Prop} (hgd : o.guard = none) (d s : Operand) (T : TypeId)
 (ho : o.op = .call { callee := .builtin .copy, args := #[d, s], argTypes := #[T, T] }) (e : TypeId) (hu : P.underlying T = some (.slice e)) (hsz : (P.info? e).map (·.size) = some 1)
 (k : IntKind) (g N cap : Nat) (L0 L : List Nat) (sp : Option Addr) (n scap : Nat) (hd : a.eval d = .slice (some ⟨g, 0, none⟩) N cap) (hs : a.eval s = .slice sp n scap) (hblk : Blk w g e k L0) (hL0 : L0.length = N) (hL : L.length = n) (hle : n ≤ N)
 (hrow : RowAt k w (.slice sp n scap) L)
 (h : ∀ w', Blk w' g e k (L ++ L0.drop L.length) → Only (fun b => b = g) w w' → w'.heap.size = w.heap.size → wpList P ops Q rest (a.put o.dst (goInt L.length)) w') : wpList P ops Q (o :: rest) a w := by
 have hlm : (L.map (iv k)).length = L.length := List.length_map _
 have hmin : Nat.min n N = n := Nat.min_eq_left hle
 by_cases h0 : L.length = 0
 ·have hnil : L = [] := List.eq_nil_of_length_eq_zero h0
  refine wpList_copy_nothing hgd d s T T ho e hu hsz _ sp N cap n scap hd hs (by rw [hmin]; omega) ?_
  have := h w (by rw [hnil]; simpa using hblk) (Only.refl _ _) rfl
  rw [h0] at this
  exact this
 ·obtain ⟨ad, rfl, hsrc⟩ := hrow.cells (by omega)
  refine wpList_copy_own hgd d s T T ho e hu hsz g 0 N cap ad n scap hd hs (L0.map (iv k)).toArray e hblk (L.map (iv k)) (by rw [hlm, hmin, hL]) hsrc (by rw [hlm, List.size_toArray, List.length_map]; omega) ?_ ?_
  ·intro u hu
   obtain ⟨x, _, rfl⟩ := List.mem_map.1 hu
   rfl
  ·have hset : Blk (w.setRow g (((L0.map (iv k)).toArray.toList.take 0 ++ (L.map (iv k) ++ (L0.map (iv k)).toArray.toList.drop (0 + (L.map (iv k)).length))).toArray)) g e k (L ++ L0.drop L.length) := by
    unfold Blk
    rw [setRow_heap w g _ _ e _ hblk]
    simp
   have := h _ hset ⟨rfl, rfl, rfl, by simp [World.setRow], fun b hb hne => ?_⟩ (by simp [World.setRow])
   ·rw [hlm] at this ⊢
    exact this
   ·simp [World.setRow, Array.getElem?_modify, Ne.symm hne]

theorem hZ {p : Prop} (h : p) : Go.RowKit.Hid p := Go.Lib.hid h
theorem _root_.Go.RowKit.Hid.o {p : Prop} (h : Go.RowKit.Hid p) : p := h
theorem aB {w w' : World} {o : Obj} (h : w.alloc o = w') : Below w.heap.size w w' := by subst h; exact (Below.refl _ _).alloc (Nat.le_refl _) _
theorem dB {w w' : World} (h : w.drew = w') : Below w.heap.size w w' := by subst h; exact (Below.refl _ _).drew
theorem bT {w0 w w' : World} (h : Hid (Below w0.heap.size w0 w)) (hB : Below w.heap.size w w') : Hid (Below w0.heap.size w0 w') := hZ (h.out.trans (hB.mono h.out.size))
theorem oT {S : Nat → Prop} {w0 w w' : World} (h : Hid (Only S w0 w)) (hB : Below w.heap.size w w') : Hid (Only S w0 w') := hZ (h.out.trans (Only.of_below hB))
end Go.Proofs.Ytlmbebbdamgfpaa
