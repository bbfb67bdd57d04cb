/- The generator of catalogs: what it needs of the memory. -/
import Derived.Test.YtfpcgjgkbniofaaGreatDoorGSeq
import Derived.Test.YtfpcgjgkbniofaaGreatDoorGPut
import Derived.Test.YtfpcgjgkbniofaaGreatDoorGRef01
set_option linter.unusedVariables false
set_option linter.unusedSimpArgs false
namespace Go.Proofs.YtfpcgjgkbniofaaGreatDoor
open Go.RowKit

def PickIs (w : World) (v : Value) (pk : Nat → Nat → Nat) : Prop :=
  ∀ W, Below w.heap.size w W → ∀ (z : Int) (i : Nat) (y : Int) (m : Nat), z = i → y = m → i ≤ 1000 → 1 ≤ m → m ≤ 1000 →
    Calls Tryz.prog 24 #[v, .int .i64 z, .int .i64 y] W fun e w' => e = .returned (.int .i64 ((pk i m : Nat) : Int)) ∧ w' = W
def pkOf (zs : List Int) (len i m : Nat) : Nat := (pickN zs len i m).toNat
theorem pickIs_of {v : Value} {zs : List Int} {len : Nat} {w : World} (h : IntsAt w v zs len) : PickIs w v (pkOf zs len) := by
  intro W hB z i y m hz hy hi h1 h2
  subst hz hy
  refine (pick_any v zs len i m W (h.below (Nat.le_refl _) hB) (by omega) (by omega) (by omega)).mono ?_
  rintro e w' ⟨rfl, rfl⟩
  have := pickN_range zs len i m (by omega)
  exact ⟨by rw [pkOf, Int.toNat_of_nonneg this.1], rfl⟩
theorem picks_of (zs : List Int) (len : Nat) : Picks (pkOf zs len) := ⟨fun i m hm => by
  have := pickN_range zs len i m (by omega)
  unfold pkOf
  omega⟩

theorem names_any (w : World) : Calls Tryz.prog 26 #[] w fun e w' => e = .returned (.slice (some ⟨w.heap.size, 0, none⟩) 6 6) ∧ w' = w.alloc (.cells (itemNames.map (fun n => .string ⟨n.toArray⟩)).toArray 9) := by
  go_enter Tryz.func26, Tryz.ntmps26
  go_wp2_with fail
  go_ret
  exact ⟨rfl, rfl⟩

theorem only_set (W : World) (g o : Nat) (v : Value) : Only (fun b => b = g) W (W.setCell ⟨g, o, none⟩ v) := (Only.refl (fun b => b = g) W).set (p := ⟨g, o, none⟩) rfl v

theorem dec_len7 (i : Nat) (h : i < 7) : (dec i).length = 1 := by
  have : i = 0 ∨ i = 1 ∨ i = 2 ∨ i = 3 ∨ i = 4 ∨ i = 5 ∨ i = 6 := by omega
  rcases this with rfl | rfl | rfl | rfl | rfl | rfl | rfl <;> rfl

theorem own_apart {w : World} {b1 b2 e1 e2 k1 k2 n1 n2 : Nat} {v1 v2 : Value} {xs ys : List Value} (h1 : w.ownsRow b1 e1 k1 v1 n1 xs) (h2 : w.ownsRow b2 e2 k2 v2 n2 ys) (i : Nat) (hx : i < n1 * k1) (hy : i < n2 * k2) (hne : xs[i]? ≠ ys[i]?) (b : Nat) (hb : v1.ownBlock = some b) : v2.ownBlock ≠ some b := by
  intro hb2
  rcases h1.2 with ⟨hv, _⟩ | ⟨g, cap, cur, hv, _, hh, _, _, _, ht⟩
  · rw [hv] at hb; cases hb
  · rcases h2.2 with ⟨hv2, _⟩ | ⟨g2, cap2, cur2, hv2, _, hh2, _, _, _, ht2⟩
    · rw [hv2] at hb2; cases hb2
    · rw [hv] at hb
      rw [hv2] at hb2
      cases hb
      cases hb2
      rw [hh] at hh2
      injection hh2 with hh2
      injection hh2 with hc _ _
      subst hc
      apply hne
      rw [← ht, ← ht2, List.getElem?_take, List.getElem?_take, if_pos hx, if_pos hy]

def nmV (n : Tx) : Value := .string ⟨n.toArray⟩
theorem elemItem : Elem Tryz.prog 23 59 7 48 := Elem.mk (z := .agg #[.string ⟨#[]⟩, .bool false, .bool false, .bool false, .int .i64 0, .int .i64 0, .int .i64 0]) Tryz.underlying23 (by kernel_rfl) rfl (by decide)
theorem elemRule : Elem Tryz.prog 24 63 9 128 := Elem.mk (z := .agg #[.string ⟨#[]⟩, .bool false, .int .i64 0, .int .i64 0, .int .i64 0, .int .i64 0, .slice none 0 0, .slice none 0 0, .slice none 0 0]) Tryz.underlying24 (by kernel_rfl) rfl (by decide)

section
variable {pk : Nat → Nat → Nat} {bal : Bool} {n i how : Nat}
theorem gRule_9 (h : pk (11 + 5 * i) 10 = 9) : gRule pk bal n i = ⟨ruleTx i, true, 0, 1, [], gGive pk bal n i (gK pk i), []⟩ := by
  unfold gRule
  simp [h]
theorem gRule_lo (h : pk (11 + 5 * i) 10 = how) (h3 : how < 3) (hb : bal = true ∨ how = 0) : gRule pk bal n i = ⟨ruleTx i, false, 0, 2, gTake pk bal n i (gK pk i), gGive pk bal n i (gK pk i), gTake pk bal n i (gK pk i)⟩ := by
  unfold gRule
  simp only [h]
  rw [if_neg (by omega), if_pos h3, if_pos ⟨h3, hb⟩]
theorem gRule_mid (h : pk (11 + 5 * i) 10 = how) (h3 : how < 3) (hb : ¬ (bal = true ∨ how = 0)) : gRule pk bal n i = ⟨ruleTx i, false, 0, 2, gTake pk bal n i (gK pk i), gGive pk bal n i (gK pk i), []⟩ := by
  unfold gRule
  simp only [h]
  rw [if_neg (by omega), if_pos h3, if_neg (fun h => hb h.2)]
theorem gRule_hi (h : pk (11 + 5 * i) 10 = how) (h3 : ¬ how < 3) (h9 : how ≠ 9) : gRule pk bal n i = ⟨ruleTx i, false, 0, 1, gTake pk bal n i (gK pk i), gGive pk bal n i (gK pk i), []⟩ := by
  unfold gRule
  simp only [h]
  rw [if_neg h9, if_neg h3, if_neg (fun h => h3 h.1)]
end

structure G1 (w W : World) (pk : Nat → Nat → Nat) (i k : Nat) (vI vW : Value) : Prop where
  b : Below w.heap.size w W
  y : BlkC W w.heap.size 28 [.slice none 0 0, .slice none 0 0, .slice none 0 0, .slice none 0 0]
  x : BlkC W (w.heap.size + 1) 28 [vI, .slice none 0 0, .slice none 0 0, .slice none 0 0]
  it : W.ownsRow (w.heap.size + 2) 59 7 vI i ((itemNames.take i).flatMap itmC)
  wt : W.ownsRow (w.heap.size + 2) 3 1 vW k ((List.range k).map (fun j => zv (genW pk j)))
  zi : i = 0 → vI.ownBlock = none
  zk : k = 0 → vW.ownBlock = none

section
variable {w W W' : World} {pk : Nat → Nat → Nat} {bal : Bool} {i k n : Nat} {vI vW vR : Value} {S : Nat → Prop}
theorem G1.sz (h : G1 w W pk i k vI vW) : w.heap.size + 2 ≤ W.heap.size := h.x.lt
theorem G1.apart (h : G1 w W pk i k vI vW) (b : Nat) (hb : vI.ownBlock = some b) : vW.ownBlock ≠ some b := by
  rcases Nat.eq_zero_or_pos i with h0 | h0
  · rw [h.zi h0] at hb; cases hb
  · rcases Nat.eq_zero_or_pos k with k0 | k0
    · rw [h.zk k0]; simp
    · refine own_apart h.it h.wt 0 (by omega) (by omega) ?_ b hb
      obtain ⟨i, rfl⟩ : ∃ j, i = j + 1 := ⟨i - 1, by omega⟩
      obtain ⟨k, rfl⟩ : ∃ j, k = j + 1 := ⟨k - 1, by omega⟩
      simp [itemNames, itmC, List.range_succ_eq_map, zv]
theorem G1.only (h : G1 w W pk i k vI vW) (ho : Only S W W') (hS : ∀ b, S b → w.heap.size + 2 ≤ b) (h1 : ∀ b, vI.ownBlock = some b → ¬ S b) (h2 : ∀ b, vW.ownBlock = some b → ¬ S b) : G1 w W' pk i k vI vW :=
  ⟨ho.below h.b h.b.size (fun k hk => by have := hS k hk; omega), h.y.only ho (fun hs => by have := hS _ hs; omega), h.x.only ho (fun hs => by have := hS _ hs; omega), ho.own h.it h1, ho.own h.wt h2, h.zi, h.zk⟩
theorem G1.below (h : G1 w W pk i k vI vW) (hb : Below W.heap.size W W') : G1 w W' pk i k vI vW := h.only (S := fun _ => False) (Only.of_below hb) (fun _ h => h.elim) (fun _ _ h => h) (fun _ _ h => h)
theorem itemNames_snoc (i : Nat) (hi : i < 6) (nm : Tx) (h : itemNames[i]? = some nm) : (itemNames.take (i + 1)).flatMap itmC = (itemNames.take i).flatMap itmC ++ itmC nm := by
  rw [List.take_add_one, h]
  simp
/-- the items have grown, and the variable is written -/
theorem G1.items (h : G1 w W pk i k vI vW) {g cap : Nat} {nm : Tx} (hi : i < 6) (hnm : itemNames[i]? = some nm) (ho : Only (fun b => vI.ownBlock = some b) W W')
    (hr : W'.ownsRow (w.heap.size + 2) 59 7 (.slice (some ⟨g, 0, none⟩) (i + 1) cap) (i + 1) ((itemNames.take i).flatMap itmC ++ itmC nm)) :
    G1 w (W'.setCell ⟨w.heap.size + 1, 0, none⟩ (.slice (some ⟨g, 0, none⟩) (i + 1) cap)) pk (i + 1) k (.slice (some ⟨g, 0, none⟩) (i + 1) cap) vW := by
  have h' := h.only ho (fun b hb => (h.it.lt b hb).1)
  have hx : BlkC W' (w.heap.size + 1) 28 [vI, .slice none 0 0, .slice none 0 0, .slice none 0 0] := h.x.only ho (fun hs => by have := (h.it.lt _ hs).1; omega)
  have hO : Only (fun b => b = w.heap.size + 1) W' (W'.setCell ⟨w.heap.size + 1, 0, none⟩ (.slice (some ⟨g, 0, none⟩) (i + 1) cap)) := only_set _ _ _ _
  have hb' := ho.below h.b h.b.size (fun k hk => by have := (h.it.lt k hk).1; omega)
  refine ⟨hO.below hb' hb'.size (fun k hk => by omega), ?_, ?_, ?_, ?_, by omega, h.zk⟩
  · exact (h.y.only ho (fun hs => by have := (h.it.lt _ hs).1; omega)).only hO (by omega)
  · exact hx.set 0 _
  · rw [itemNames_snoc i hi nm hnm]
    exact hO.own hr (fun b hb => by have := (hr.lt b hb).1; omega)
  · exact hO.own (ho.own h.wt (fun b hb hs => h.apart b hs hb)) (fun b hb => by have := (h.wt.lt b hb).1; omega)
theorem G1.weights (h : G1 w W pk i k vI vW) {g cap : Nat} (ho : Only (fun b => vW.ownBlock = some b) W W')
    (hr : W'.ownsRow (w.heap.size + 2) 3 1 (.slice (some ⟨g, 0, none⟩) (k + 1) cap) (k + 1) ((List.range k).map (fun j => zv (genW pk j)) ++ [.int .i64 (1 + (pk (1 + k) 4 : Int))])) :
    G1 w W' pk i (k + 1) vI (.slice (some ⟨g, 0, none⟩) (k + 1) cap) := by
  refine ⟨ho.below h.b h.b.size (fun k hk => by have := (h.wt.lt k hk).1; omega), h.y.only ho (fun hs => by have := (h.wt.lt _ hs).1; omega), h.x.only ho (fun hs => by have := (h.wt.lt _ hs).1; omega), ho.own h.it (fun b hb hs => h.apart b hb hs), ?_, h.zi, by omega⟩
  rw [List.range_succ, List.map_append]
  simpa [zv, genW] using hr

def StrB (W : World) (b : Nat) : Prop := ∃ s z, W.cell? ⟨b, 0, none⟩ = some (.string s) ∧ W.cell? ⟨b, 2, none⟩ = some (zv z)

theorem SliceOf.onlyS {α : Type} {k : Nat} {R : World → α → List Value → Prop} {v : Value} {xs : List α} (h : SliceOf k R W v xs) (ho : Only S W W') (hd : ∀ b, S b → ∀ x cs, R W x cs → ∃ i, i < k ∧ W.cell? ⟨b, i, none⟩ ≠ cs[i]?)
    (hR : ∀ x cs, R W x cs → R W' x cs) : SliceOf k R W' v xs := by
  obtain ⟨a, cap, hv, h1, h2, hc⟩ := h
  refine ⟨a, cap, hv, h1, h2, fun h0 => ?_⟩
  obtain ⟨b, ha, hlt, hcc⟩ := hc h0
  have hS : ¬ S b := by
    intro hs
    obtain ⟨cs, hr, _, hcl⟩ := hcc 0 h0
    obtain ⟨i, hi, hne⟩ := hd b hs _ _ hr
    apply hne
    have := hcl i hi
    rwa [Nat.zero_mul, Nat.zero_add] at this
  refine ⟨b, ha, Nat.lt_of_lt_of_le hlt ho.size, fun j hj => ?_⟩
  obtain ⟨cs, hr, hl, hcl⟩ := hcc j hj
  exact ⟨cs, hR _ _ hr, hl, fun i hi => (ho.cell (p := ⟨b, j * k + i, none⟩) hS hlt).trans (hcl i hi)⟩
theorem AmtsAt.onlyS {v : Value} {l : List Amt} (h : AmtsAt W v l) (ho : Only S W W') (hS : ∀ b, S b → StrB W b) : AmtsAt W' v l := by
  refine SliceOf.onlyS h ho (fun b hb x cs hc => ⟨0, by omega, ?_⟩) (fun _ _ h => h)
  obtain ⟨s, z, h0, _⟩ := hS b hb
  subst hc
  rw [h0]
  simp [amtC, zv]
theorem IntsOf.onlyS {v : Value} {l : List Int} (h : IntsOf W v l) (ho : Only S W W') (hS : ∀ b, S b → StrB W b) : IntsOf W' v l := by
  refine SliceOf.onlyS h ho (fun b hb x cs hc => ⟨0, by omega, ?_⟩) (fun _ _ h => h)
  obtain ⟨s, z, h0, _⟩ := hS b hb
  subst hc
  rw [h0]
  simp [zv]
theorem ItemsAt.onlyS {v : Value} {l : List Tx} (h : ItemsAt W v l) (ho : Only S W W') (hS : ∀ b, S b → StrB W b) : ItemsAt W' v l := by
  refine SliceOf.onlyS h ho (fun b hb x cs hc => ⟨2, by omega, ?_⟩) (fun _ _ h => h)
  obtain ⟨s, z, _, h0⟩ := hS b hb
  subst hc
  rw [h0]
  simp [itmC, zv]
theorem RulAt.onlyS {r : Rul} {cs : List Value} (h : RulAt W r cs) (ho : Only S W W') (hS : ∀ b, S b → StrB W b) : RulAt W' r cs := by
  obtain ⟨vt, vg, vb, h1, h2, h3, h4⟩ := h
  exact ⟨vt, vg, vb, h1, h2.onlyS ho hS, h3.onlyS ho hS, h4.onlyS ho hS⟩

structure GI (w W : World) (pk : Nat → Nat → Nat) (bal : Bool) (n i : Nat) (vI vW vR : Value) : Prop where
  b : Below w.heap.size w W
  y : BlkC W w.heap.size 28 [.slice none 0 0, .slice none 0 0, .slice none 0 0, .slice none 0 0]
  x : BlkC W (w.heap.size + 1) 28 [vI, vR, .slice none 0 0, .slice none 0 0]
  it : ItemsAt W vI (itemNames.take n)
  wt : IntsOf W vW ((List.range n).map (fun j => ((genW pk j : Nat) : Int)))
  rl : ∃ css : List (List Value), css.length = i ∧ (∀ cs ∈ css, cs.length = 9) ∧ W.ownsRow (w.heap.size + 2) 63 9 vR i css.flatten ∧ ∀ j (h : j < css.length), RulAt W (gRule pk bal n j) css[j]
  z : i = 0 → vR.ownBlock = none

theorem items_of_own {base : Nat} {e : TypeId} {v : Value} {l : List Tx} (h : W.ownsRow base e 7 v l.length (l.flatMap itmC)) : ItemsAt W v l := by
  refine SliceOf.of_own (css := l.map itmC) (base := base) (e := e) (by rw [List.length_map, ← List.flatMap_def]; exact h) (by simp [itmC]) (by simp) ?_
  intro j h1 h2
  simp
theorem G1.gi (h : G1 w W pk n n vI vW) (hn : n ≤ 6) : GI w W pk bal n 0 vI vW (.slice none 0 0) := by
  refine ⟨h.b, h.y, h.x, ?_, ?_, ⟨[], rfl, by simp, World.ownsRow_nil _ _ _ _, fun j hj => by simp at hj⟩, fun _ => rfl⟩
  · have hl : (itemNames.take n).length = n := by rw [List.length_take]; simp [itemNames]; omega
    have := h.it
    exact items_of_own (base := w.heap.size + 2) (e := 59) (by rw [hl]; exact this)
  · have := h.wt
    exact ints_of_own (base := w.heap.size + 2) (e := 3) (by rw [List.length_map, List.length_range, List.map_map]; exact this)
theorem GI.sz (h : GI w W pk bal n i vI vW vR) : w.heap.size + 2 ≤ W.heap.size := h.x.lt
theorem GI.wcell {bw cw : Nat} (h : GI w W pk bal n i vI (.slice (some ⟨bw, 0, none⟩) n cw) vR) (j : Nat) (hj : j < n) : W.cell? ⟨bw, j, none⟩ = some (.int .i64 ((genW pk j : Nat) : Int)) := by
  obtain ⟨b, cap, cs, hv, hb, rfl, _, hc⟩ := SliceOf.at_ h.wt j (by simpa using hj)
  injection hv with e1 _ _
  injection e1 with e1
  injection e1 with e1
  subst e1
  have := hc 0 (by omega)
  simpa [zv] using this
theorem GI.row (h : GI w W pk bal n i vI vW vR) (b : Nat) (hb : vR.ownBlock = some b) : w.heap.size + 2 ≤ b ∧ StrB W b ∧ b < W.heap.size := by
  obtain ⟨css, hl, h9, ho, hr⟩ := h.rl
  have h1 := ho.lt b hb
  refine ⟨h1.1, ?_, h1.2⟩
  have hi : 0 < i := by
    rcases Nat.eq_zero_or_pos i with h0 | h0
    · rw [h.z h0] at hb; cases hb
    · exact h0
  obtain ⟨vt, vg, vb, hc, _⟩ := hr 0 (by omega)
  rcases ho.2 with ⟨hv, _⟩ | ⟨g, cap, cur, hv, _, hh, _, _, hs, ht⟩
  · rw [hv] at hb; cases hb
  · rw [hv] at hb
    cases hb
    have hcell : ∀ q, q < 9 → W.cell? ⟨g, q, none⟩ = (rulC (gRule pk bal n 0) vt vg vb)[q]? := by
      intro q hq
      rw [cell_of_row W g q _ _ (0, 0) hh, ← hc, ← flatten_at css 9 0 q h9 (by omega) hq, Nat.zero_mul, Nat.zero_add, ← ht, List.getElem?_take, if_pos (by omega), Array.getElem?_toList]
    exact ⟨_, _, hcell 0 (by omega), hcell 2 (by omega)⟩
theorem GI.only (h : GI w W pk bal n i vI vW vR) (ho : Only S W W') (hS : ∀ b, S b → w.heap.size + 2 ≤ b ∧ StrB W b ∧ vR.ownBlock ≠ some b) : GI w W' pk bal n i vI vW vR := by
  have hs2 : ∀ b, S b → StrB W b := fun b hb => (hS b hb).2.1
  refine ⟨ho.below h.b h.b.size (fun k hk => by have := (hS k hk).1; omega), h.y.only ho (fun hs => by have := (hS _ hs).1; omega), h.x.only ho (fun hs => by have := (hS _ hs).1; omega), h.it.onlyS ho hs2, h.wt.onlyS ho hs2, ?_, h.z⟩
  obtain ⟨css, hl, h9, hw, hr⟩ := h.rl
  exact ⟨css, hl, h9, ho.own hw (fun b hb hs => (hS b hs).2.2 hb), fun j hj => (hr j hj).onlyS ho hs2⟩
theorem GI.below (h : GI w W pk bal n i vI vW vR) (hb : Below W.heap.size W W') : GI w W' pk bal n i vI vW vR := h.only (S := fun _ => False) (Only.of_below hb) (fun _ h => h.elim)
theorem GI.grow (h : GI w W pk bal n i vI vW vR) {g cap : Nat} {cs : List Value} {css : List (List Value)} (hl : css.length = i) (h9 : ∀ cs ∈ css, cs.length = 9) (hrr : ∀ j (h : j < css.length), RulAt W (gRule pk bal n j) css[j]) (hc : RulAt W (gRule pk bal n i) cs) (hc9 : cs.length = 9) (ho : Only (fun b => vR.ownBlock = some b) W W')
    (hr' : W'.ownsRow (w.heap.size + 2) 63 9 (.slice (some ⟨g, 0, none⟩) (i + 1) cap) (i + 1) (css.flatten ++ cs)) :
    GI w (W'.setCell ⟨w.heap.size + 1, 1, none⟩ (.slice (some ⟨g, 0, none⟩) (i + 1) cap)) pk bal n (i + 1) vI vW (.slice (some ⟨g, 0, none⟩) (i + 1) cap) := by
  have hs2 : ∀ b, vR.ownBlock = some b → StrB W b := fun b hb => (h.row b hb).2.1
  have hO : Only (fun b => b = w.heap.size + 1) W' (W'.setCell ⟨w.heap.size + 1, 1, none⟩ (.slice (some ⟨g, 0, none⟩) (i + 1) cap)) := only_set _ _ _ _
  have hx : BlkC W' (w.heap.size + 1) 28 [vI, vR, .slice none 0 0, .slice none 0 0] := h.x.only ho (fun hs => by have := (h.row _ hs).1; omega)
  have hb' := ho.below h.b h.b.size (fun k hk => by have := (h.row k hk).1; omega)
  have hne : ∀ (x : Addr), W'.cell? ⟨w.heap.size + 1, 0, none⟩ = some vI := fun _ => hx.cell 0
  obtain ⟨ai, ni, hvi, _⟩ := h.it.form
  obtain ⟨aw, nw, hvw, _⟩ := h.wt.form
  have hbx : ∀ b, b = w.heap.size + 1 → W'.cell? ⟨b, 0, none⟩ = some vI ∧ W'.cell? ⟨b, 2, none⟩ = some (.slice none 0 0) := fun b hb => by subst hb; exact ⟨hx.cell 0, hx.cell 2⟩
  have hA : ∀ v l, AmtsAt W' v l → AmtsAt (W'.setCell ⟨w.heap.size + 1, 1, none⟩ (.slice (some ⟨g, 0, none⟩) (i + 1) cap)) v l := fun v l ha => SliceOf.onlyS ha hO (fun b hb x cs hc => ⟨0, by omega, by rw [(hbx b hb).1, hc, hvi]; simp [amtC, zv]⟩) (fun _ _ h => h)
  refine ⟨hO.below hb' hb'.size (fun k hk => by omega), (h.y.only ho (fun hs => by have := (h.row _ hs).1; omega)).only hO (by omega), hx.set 1 _, ?_, ?_, ⟨css ++ [cs], by simp [hl], ?_, ?_, ?_⟩, by omega⟩
  · exact SliceOf.onlyS (h.it.onlyS ho hs2) hO (fun b hb x cs hc => ⟨2, by omega, by rw [(hbx b hb).2, hc]; simp [itmC]⟩) (fun _ _ h => h)
  · exact SliceOf.onlyS (h.wt.onlyS ho hs2) hO (fun b hb x cs hc => ⟨0, by omega, by rw [(hbx b hb).1, hc, hvi]; simp [zv]⟩) (fun _ _ h => h)
  · intro c hc
    rcases List.mem_append.1 hc with hc | hc
    · exact h9 c hc
    · rw [List.mem_singleton.1 hc]; exact hc9
  · rw [List.flatten_append, List.flatten_singleton]
    exact hO.own hr' (fun b hb => by have := (hr'.lt b hb).1; omega)
  · intro j hj
    have hR : ∀ r cs, RulAt W r cs → RulAt (W'.setCell ⟨w.heap.size + 1, 1, none⟩ (.slice (some ⟨g, 0, none⟩) (i + 1) cap)) r cs := by
      intro r cs hr
      obtain ⟨vt, vg, vb, e1, e2, e3, e4⟩ := hr.onlyS ho hs2
      exact ⟨vt, vg, vb, e1, hA _ _ e2, hA _ _ e3, hA _ _ e4⟩
    rcases Nat.lt_or_ge j css.length with h1 | h1
    · rw [List.getElem_append_left h1]
      exact hR _ _ (hrr j h1)
    · obtain rfl : j = i := by simp at hj; omega
      rw [List.getElem_append_right h1]
      simp only [hl, Nat.sub_self, List.getElem_cons_zero]
      exact hR _ _ hc

/-- the rule that is built -/
structure GR (w W : World) (pk : Nat → Nat → Nat) (bal : Bool) (n i : Nat) (vI vW vR : Value) (g : Nat) (vt vg : Value) (lt lg : List Amt) : Prop where
  gi : GI w W pk bal n i vI vW vR
  r : BlkC W g 63 [nmV (ruleTx i), .bool false, .int .i64 0, .int .i64 0, .int .i64 1, .int .i64 1, vt, vg, .slice none 0 0]
  hg : w.heap.size + 2 ≤ g
  ap : vR.ownBlock ≠ some g
  t : AmtsAt W vt lt
  g_ : AmtsAt W vg lg
variable {g : Nat} {vt vg : Value} {lt lg : List Amt}
theorem GR.below (h : GR w W pk bal n i vI vW vR g vt vg lt lg) (hb : Below W.heap.size W W') : GR w W' pk bal n i vI vW vR g vt vg lt lg :=
  ⟨h.gi.below hb, h.r.below hb h.r.lt, h.hg, h.ap, h.t.below hb, h.g_.below hb⟩
theorem gTake_fits {pk : Nat → Nat → Nat} (hp : Picks pk) (bal : Bool) (n i k : Nat) (hn : 0 < n) (hk : k ≤ 2) : (gTake pk bal n i k).length ≤ 1000 ∧ ∀ a ∈ gTake pk bal n i k, a.n ≤ 1000000 := by
  have h := gTake_good (bal := bal) hp n i hn k
  exact ⟨by have := h.len; omega, fun a ha => by have := (h.all a ha).2.2; omega⟩
theorem gGive_fits {pk : Nat → Nat → Nat} (hp : Picks pk) (bal : Bool) (n i k : Nat) (hn : 0 < n) (hk : k ≤ 2) : (gGive pk bal n i k).length ≤ 1000 ∧ ∀ a ∈ gGive pk bal n i k, a.n ≤ 1000000 := by
  have h := gGive_good (bal := bal) hp n i hn k
  exact ⟨by have := h.len; omega, fun a ha => by have := (h.all a ha).2.2; omega⟩
theorem GR.str (h : GR w W pk bal n i vI vW vR g vt vg lt lg) : StrB W g := ⟨_, 0, h.r.cell 0, h.r.cell 2⟩
theorem GR.setT (h : GR w W pk bal n i vI vW vR g vt vg lt lg) {v' : Value} {l' : List Amt} (hv : AmtsAt W v' l') : GR w (W.setCell ⟨g, 6, none⟩ v') pk bal n i vI vW vR g v' vg l' lg := by
  have hO : Only (fun b => b = g) W (W.setCell ⟨g, 6, none⟩ v') := only_set _ _ _ _
  have hs : ∀ b, b = g → StrB W b := fun b hb => by subst hb; exact h.str
  exact ⟨h.gi.only hO (fun b hb => by subst hb; exact ⟨h.hg, h.str, h.ap⟩), h.r.set 6 _, h.hg, h.ap, hv.onlyS hO hs, h.g_.onlyS hO hs⟩
theorem GR.setG (h : GR w W pk bal n i vI vW vR g vt vg lt lg) {v' : Value} {l' : List Amt} (hv : AmtsAt W v' l') : GR w (W.setCell ⟨g, 7, none⟩ v') pk bal n i vI vW vR g vt v' lt l' := by
  have hO : Only (fun b => b = g) W (W.setCell ⟨g, 7, none⟩ v') := only_set _ _ _ _
  have hs : ∀ b, b = g → StrB W b := fun b hb => by subst hb; exact h.str
  exact ⟨h.gi.only hO (fun b hb => by subst hb; exact ⟨h.hg, h.str, h.ap⟩), h.r.set 7 _, h.hg, h.ap, h.t.onlyS hO hs, hv.onlyS hO hs⟩

theorem GR.any (h : GR w W pk bal n i vI vW vR g vt vg lt lg) (hO : Only (fun b => b = g) W W') : GI w W' pk bal n i vI vW vR ∧ AmtsAt W' vt lt ∧ AmtsAt W' vg lg := by
  have hs : ∀ b, b = g → StrB W b := fun b hb => by subst hb; exact h.str
  exact ⟨h.gi.only hO (fun b hb => by subst hb; exact ⟨h.hg, h.str, h.ap⟩), h.t.onlyS hO hs, h.g_.onlyS hO hs⟩

theorem GI.cat (h : GI w W pk bal n i vI vW vR) (hn : genN pk = n) (hi : i = pk 7 7) (ho : Only (fun b => b = w.heap.size) W W') : CatAt W' vI vR (genCat pk bal) := by
  have hbx : ∀ b, b = w.heap.size → W.cell? ⟨b, 0, none⟩ = some (.slice none 0 0) ∧ W.cell? ⟨b, 2, none⟩ = some (.slice none 0 0) := fun b hb => by subst hb; exact ⟨h.y.cell 0, h.y.cell 2⟩
  have hA : ∀ v l, AmtsAt W v l → AmtsAt W' v l := fun v l ha => SliceOf.onlyS ha ho (fun b hb x cs hc => ⟨0, by omega, by rw [(hbx b hb).1, hc]; simp [amtC, zv]⟩) (fun _ _ h => h)
  refine ⟨?_, ?_⟩
  · have := SliceOf.onlyS h.it ho (fun b hb x cs hc => ⟨0, by omega, by rw [(hbx b hb).1, hc]; simp [itmC]⟩) (fun _ _ h => h)
    rw [← hn] at this
    exact this
  · obtain ⟨css, hl, h9, hw, hr⟩ := h.rl
    have hw' := ho.own hw (fun b hb => by have := (hw.lt b hb).1; omega)
    subst hn hi
    refine SliceOf.of_own (css := css) (base := w.heap.size + 2) (e := 63) (by rw [hl]; exact hw') h9 (by simp [genCat, hl]) ?_
    intro j h1 h2
    have hj : (genCat pk bal).rules[j] = gRule pk bal (genN pk) j := by simp [genCat]
    rw [hj]
    obtain ⟨vt, vg, vb, e1, e2, e3, e4⟩ := hr j h2
    exact ⟨vt, vg, vb, e1, hA _ _ e2, hA _ _ e3, hA _ _ e4⟩
end
end Go.Proofs.YtfpcgjgkbniofaaGreatDoor
