/- Decimal texts: plain Lean. -/
import Derived.Below
import Derived.Lib.Hide
import Derived.Laws.OwnMore
import Derived.Laws.Rows
import Derived.Laws.CopyOwn
import Derived.Deep.Draws
import Derived.OwnWalk
import Derived.WalkKit
set_option linter.unusedVariables false
set_option linter.unusedSimpArgs false
namespace Go.Proofs.Ytlmbebbdamgfpaa

def val (b : Nat) : List Nat -> Nat
 | [] => 0
 | x :: xs => x + b * val b xs
def qGs (b : Nat) : Nat -> Nat -> List Nat
 | 0, _ => []
 | f + 1, n => if n = 0 then [] else n % b :: qGs b f (n / b)
def qAe (b n : Nat) : List Nat := qGs b n n
def Low (b : Nat) (l : List Nat) : Prop := ∀ x ∈ l, x < b
theorem qEY (b : Nat) (hb : 2 <= b) : ∀ (f g n : Nat), n <= f -> n <= g -> qGs b f n = qGs b g n
 | 0, 0, _, _, _ => rfl
 | 0, g + 1, n, hf, _ => by
  have : n = 0 := by omega
  subst this; simp [qGs]
 | f + 1, 0, n, _, hg => by
  have : n = 0 := by omega
  subst this; simp [qGs]
 | f + 1, g + 1, n, hf, hg => by
  unfold qGs; by_cases h : n = 0
  ·rw [if_pos h, if_pos h]
  ·rw [if_neg h, if_neg h]
   have h2 : n / b < n := Nat.div_lt_self (by omega) (by omega); rw [qEY b hb f g (n / b) (by omega) (by omega)]
theorem qBf (b : Nat) : qAe b 0 = [] := rfl
theorem qBs (b n : Nat) (hb : 2 <= b) (hn : n ≠ 0) : qAe b n = n % b :: qAe b (n / b) := by
 unfold qAe; cases n with
 | zero => exact absurd rfl hn
 | succ m =>
  have h2 : (m + 1) / b < m + 1 := Nat.div_lt_self (by omega) (by omega)
  conv => lhs; unfold qGs
  rw [if_neg hn, qEY b hb m ((m + 1) / b) _ (by omega) (Nat.le_refl _)]
theorem qAi (b : Nat) (hb : 2 <= b) (n : Nat) : val b (qAe b n) = n := by
 induction n using Nat.strongRecOn with
 | _ n ih =>
  by_cases h : n = 0
  ·subst h; rfl
  ·rw [qBs b n hb h, val, ih (n / b) (Nat.div_lt_self (by omega) (by omega))]
   have := Nat.div_add_mod n b; omega
theorem qAl (b : Nat) (hb : 2 <= b) (n : Nat) : Low b (qAe b n) := by
 induction n using Nat.strongRecOn with
 | _ n ih =>
  by_cases h : n = 0
  ·subst h; intro x hx; cases hx
  ·rw [qBs b n hb h]
   intro x hx; rcases List.mem_cons.1 hx with rfl | hx
   ·exact Nat.mod_lt _ (by omega)
   ·exact ih (n / b) (Nat.div_lt_self (by omega) (by omega)) x hx
theorem qBM (b n : Nat) (hb : 2 <= b) : qAe b n = [] ↔ n = 0 := by
 constructor
 ·intro h
  have := qAi b hb n; rw [h] at this; exact this.symm
 ·rintro rfl; rfl
theorem qGr (b : Nat) (hb : 2 <= b) (n : Nat) : (qAe b n).getLast? ≠ some 0 := by
 induction n using Nat.strongRecOn with
 | _ n ih =>
  by_cases h : n = 0
  ·subst h; intro h; cases h
  ·rw [qBs b n hb h]
   have hlt := Nat.div_lt_self (n := n) (k := b) (by omega) (by omega); by_cases h2 : n / b = 0
   ·rw [h2, qBf]
    intro h3; simp at h3; have := Nat.div_add_mod n b; rw [h2] at this; simp at this; omega
   ·have := ih (n / b) hlt
    have hne : qAe b (n / b) ≠ [] := fun h => h2 ((qBM b _ hb).1 h); rw [List.getLast?_cons]; cases hd : qAe b (n / b) with
    | nil => exact absurd hd hne
    | cons y ys =>
     rw [hd] at this; rw [List.getLast?_eq_some_getLast (by simp)] at this ⊢; simpa using this
theorem qF4 (b : Nat) (hb : 2 <= b) : ∀ l : List Nat, Low b l -> l.getLast? ≠ some 0 -> qAe b (val b l) = l
 | [], _, _ => rfl
 | x :: xs, hl, hlast => by
  have hx : x < b := hl x (List.mem_cons_self ..); have hxs : Low b xs := fun y hy => hl y (List.mem_cons_of_mem _ hy); cases xs with
  | nil =>
   have hx0 : x ≠ 0 := by rintro rfl; exact hlast rfl
   show qAe b (x + b * 0) = [x]
   rw [Nat.mul_zero, Nat.add_zero, qBs b x hb hx0, Nat.mod_eq_of_lt hx, Nat.div_eq_of_lt hx, qBf]
  | cons y ys =>
   have h1 : (y :: ys).getLast? ≠ some 0 := by
    rw [List.getLast?_cons_cons] at hlast; exact hlast
   have ih := qF4 b hb (y :: ys) hxs h1; have hv : val b (y :: ys) ≠ 0 := by
    intro h; rw [h] at ih; cases ih
   show qAe b (x + b * val b (y :: ys)) = x :: y :: ys
   have hne : x + b * val b (y :: ys) ≠ 0 := by
    have := Nat.mul_pos (show 0 < b by omega) (Nat.pos_of_ne_zero hv); omega
   rw [qBs b _ hb hne, Nat.add_mul_mod_self_left, Nat.mod_eq_of_lt hx, Nat.add_mul_div_left _ _ (by omega), Nat.div_eq_of_lt hx, Nat.zero_add, ih]
theorem qAN (b : Nat) : ∀ l m : List Nat, val b (l ++ m) = val b l + b ^ l.length * val b m
 | [], m => by simp [val]
 | x :: xs, m => by
  rw [List.cons_append, val, val, qAN b xs m, List.length_cons, Nat.pow_succ]
  grind
theorem qBk (b : Nat) (hb : 0 < b) : ∀ l : List Nat, Low b l -> val b l < b ^ l.length
 | [], _ => by simp [val]
 | x :: xs, hl => by
  have hx : x < b := hl x (List.mem_cons_self ..); have ih := qBk b hb xs (fun y hy => hl y (List.mem_cons_of_mem _ hy)); rw [val, List.length_cons, Nat.pow_succ]; have h1 : b * (val b xs + 1) <= b * b ^ xs.length := Nat.mul_le_mul_left _ ih; rw [Nat.mul_add, Nat.mul_one] at h1; rw [Nat.mul_comm (b ^ xs.length) b]; omega
theorem qBo (b : Nat) : ∀ l : List Nat, (∀ x ∈ l, x = 0) -> val b l = 0
 | [], _ => rfl
 | x :: xs, h => by
  rw [val, qBo b xs (fun y hy => h y (List.mem_cons_of_mem _ hy)), h x (List.mem_cons_self ..)]; simp
theorem qBh (b : Nat) : ∀ (l : List Nat) (k x : Nat) (h : k < l.length), val b (l.set k x) + l[k] * b ^ k = val b l + x * b ^ k
 | [], _, _, h => by simp at h
 | y :: ys, 0, x, _ => by simp [val]; omega
 | y :: ys, k + 1, x, h => by
  have ih := qBh b ys k x (by simpa using h); rw [List.set_cons_succ, val, val, List.getElem_cons_succ, Nat.pow_succ]
  grind
theorem qAf (b : Nat) (l : List Nat) (k : Nat) (h : k < l.length) : val b (l.take (k + 1)) = val b (l.take k) + l[k] * b ^ k := by
 rw [List.take_succ_eq_append_getElem h, qAN, List.length_take, Nat.min_eq_left (by omega)]; simp [val, Nat.mul_comm]
theorem qEE (b : Nat) (l : List Nat) (n : Nat) (hz : ∀ j (h : j < l.length), n <= j -> l[j] = 0) : val b l = val b (l.take n) := by
 conv => lhs; rw [<- List.take_append_drop n l]
 rw [qAN, qBo b (l.drop n), Nat.mul_zero, Nat.add_zero]; intro x hx; obtain ⟨i, hi, rfl⟩ := List.getElem_of_mem hx; rw [List.getElem_drop]; exact hz _ _ (by omega)
theorem qD8 (b : Nat) (hb : 2 <= b) (l : List Nat) (hl : Low b l) (n : Nat) (hn : n <= l.length) (hz : ∀ j (h : j < l.length), n <= j -> l[j] = 0) (hlast : ∀ h : n - 1 < l.length, n = 0 \/ l[n - 1] ≠ 0) : l.take n = qAe b (val b l) := by
 rw [qEE b l n hz, qF4 b hb]
 ·intro x hx; exact hl x (List.mem_of_mem_take hx)
 ·intro h
  cases n with
  | zero => simp at h
  | succ n =>
   have hlt : n < l.length := by omega
   rw [List.take_succ_eq_append_getElem hlt, List.getLast?_concat] at h; have := hlast (by simpa using hlt); simp at this h; exact this h
theorem qAO (b : Nat) (hb : 2 <= b) : ∀ (k n : Nat), n < b ^ k -> (qAe b n).length <= k
 | 0, n, h => by
  have : n = 0 := by simpa using h
  subst this; simp [qBf]
 | k + 1, n, h => by
  by_cases h0 : n = 0
  ·subst h0; simp [qBf]
  ·rw [qBs b n hb h0, List.length_cons]
   have := qAO b hb k (n / b) (by rw [Nat.div_lt_iff_lt_mul (by omega)]; rw [Nat.pow_succ] at h; exact h); omega
theorem qEx (b : Nat) (hb : 2 <= b) (k n : Nat) (h : b ^ k <= n) : k < (qAe b n).length := by
 have h1 := qBk b (by omega) (qAe b n) (qAl b hb n); rw [qAi b hb] at h1; exact (Nat.pow_lt_pow_iff_right (by omega)).1 (Nat.lt_of_le_of_lt h h1)
theorem qAM (b : Nat) (hb : 2 <= b) (m n : Nat) (h : m <= n) : (qAe b m).length <= (qAe b n).length := by
 apply qAO b hb; have h1 := qBk b (by omega) (qAe b n) (qAl b hb n); rw [qAi b hb] at h1; omega
theorem qDe (b : Nat) (hb : 2 <= b) (m n : Nat) (h : (qAe b m).length < (qAe b n).length) : m < n := by
 rcases Nat.lt_or_ge m n with h1 | h1
 ·exact h1
 ·have := qAM b hb n m h1; omega
theorem qC4 (b : Nat) (hb : 2 <= b) (l m : List Nat) (hl : Low b l) (i : Nat) (h1 : i < l.length) (h2 : i < m.length) (hd : l.drop (i + 1) = m.drop (i + 1)) (hlt : l[i] < m[i]) : val b l < val b m := by
 have e1 : val b l = val b (l.take (i + 1)) + b ^ (i + 1) * val b (l.drop (i + 1)) := by
  conv => lhs; rw [<- List.take_append_drop (i + 1) l, qAN, List.length_take, Nat.min_eq_left (by omega)]
 have e2 : val b m = val b (m.take (i + 1)) + b ^ (i + 1) * val b (m.drop (i + 1)) := by
  conv => lhs; rw [<- List.take_append_drop (i + 1) m, qAN, List.length_take, Nat.min_eq_left (by omega)]
 rw [e1, e2, hd, qAf b l i h1, qAf b m i h2]; have h3 := qBk b (by omega) (l.take i) (fun x hx => hl x (List.mem_of_mem_take hx)); rw [List.length_take, Nat.min_eq_left (by omega)] at h3; have h4 : (l[i] + 1) * b ^ i <= m[i] * b ^ i := Nat.mul_le_mul_right _ hlt; rw [Nat.add_mul, Nat.one_mul] at h4; omega
theorem qAP {b : Nat} {l : List Nat} (hl : Low b l) (k x : Nat) (hx : x < b) : Low b (l.set k x) := by
 intro y hy; rcases List.mem_or_eq_of_mem_set hy with h | rfl
 ·exact hl y h
 ·exact hx
theorem qDA {b : Nat} {l m : List Nat} (hl : Low b l) (hm : Low b m) : Low b (l ++ m) := by
 intro y hy; rcases List.mem_append.1 hy with h | h
 ·exact hl y h
 ·exact hm y h
theorem qDg {b : Nat} {l : List Nat} (hl : Low b l) (n : Nat) : Low b (l.take n) := fun x hx => hl x (List.mem_of_mem_take hx)
open Go.RowKit
def iv (k : IntKind) (x : Nat) : Value := .int k (x : Int)
def Blk (w : World) (g : Nat) (t : TypeId) (k : IntKind) (L : List Nat) : Prop := w.heap[g]? = some (.cells (L.map (iv k)).toArray t (0, 0))
section
variable {w w' : World} {g : Nat} {t : TypeId} {k : IntKind} {L : List Nat}
theorem Blk.lt (h : Blk w g t k L) : g < w.heap.size := by
 rcases Nat.lt_or_ge g w.heap.size with hlt | hge
 ·exact hlt
 ·unfold Blk at h; rw [Array.getElem?_eq_none hge] at h; cases h
theorem Blk.heap (h : Blk w g t k L) : w.heap[g]? = some (.cells (L.map (iv k)).toArray t (0, 0)) := h
theorem Blk.cell (h : Blk w g t k L) (i : Nat) (hi : i < L.length) : w.cell? ⟨g, i, none⟩ = some (.int k (L[i] : Int)) := by
 rw [cell_of_row w g i _ t (0, 0) h]; simp [hi, iv]
theorem Blk.frozen (h : Blk w g t k L) (i : Nat) : w.frozen? ⟨g, i, none⟩ = false := by
 unfold Blk at h; simp [World.frozen?, h]
theorem Blk.below {B : Nat} (h : Blk w g t k L) (hb : Below B w w') (hg : g < B) : Blk w' g t k L := (hb.block g hg).trans h
theorem Blk.set (h : Blk w g t k L) (i : Nat) (x : Nat) : Blk (w.setCell ⟨g, i, none⟩ (.int k (x : Int))) g t k (L.set i x) := by
 unfold Blk at h ⊢; simp [World.setCell, Array.getElem?_modify, h, iv]
theorem Blk.far (h : Blk w g t k L) {p : Addr} (hp : g ≠ p.block) (u : Value) : Blk (w.setCell p u) g t k L := (Below.heap_setCell w p u g hp).trans h
theorem Blk.drewN (h : Blk w g t k L) (n : Nat) : Blk (w.drewN n) g t k L := h
theorem Blk.drew (h : Blk w g t k L) : Blk w.drew g t k L := h
theorem Blk.alloc (h : Blk w g t k L) (o : Obj) : Blk (w.alloc o) g t k L := (Below.heap_alloc w o g h.lt).trans h
end
def qAd (k : IntKind) (w : World) (v : Value) (L : List Nat) : Prop :=
 ∃ a cap, v = .slice a L.length cap /\ L.length <= cap /\ cap <= 9223372036854775807 /\ (0 < L.length -> ∃ b off, a = some ⟨b, off, none⟩ /\ b < w.heap.size /\ ∀ j (h : j < L.length), w.cell? ⟨b, off + j, none⟩ = some (.int k (L[j] : Int)))
section
variable {k : IntKind} {w w' : World} {v : Value} {L : List Nat}
theorem qAd.below {B : Nat} (h : qAd k w v L) (hB : w.heap.size <= B) (hb : Below B w w') : qAd k w' v L := by
 obtain ⟨a, cap, hv, h1, h2, hc⟩ := h; refine ⟨a, cap, hv, h1, h2, fun h0 => ?_⟩; obtain ⟨b, off, ha, hlt, hcc⟩ := hc h0; exact ⟨b, off, ha, Nat.lt_of_lt_of_le hlt hb.size, fun j hj => (hb.cell (p := ⟨b, off + j, none⟩) (Nat.lt_of_lt_of_le hlt hB)).trans (hcc j hj)⟩
theorem qAd.nil (a : Option Addr) (cap : Nat) (hc : cap <= 9223372036854775807) : qAd k w (.slice a 0 cap) [] := ⟨a, cap, rfl, by simp, hc, fun h => by simp at h⟩
theorem qAd.of_blk {g : Nat} {t : TypeId} {cap : Nat} (h : Blk w g t k L) (h1 : L.length <= cap) (h2 : cap <= 9223372036854775807) : qAd k w (.slice (some ⟨g, 0, none⟩) L.length cap) L :=
 ⟨_, cap, rfl, h1, h2, fun _ => ⟨g, 0, rfl, h.lt, fun j hj => by rw [Nat.zero_add]; exact h.cell j hj⟩⟩
theorem qAd.take (h : qAd k w v L) (n : Nat) (hn : n <= L.length) : ∃ a cap, v = .slice a L.length cap /\ L.length <= cap /\ cap <= 9223372036854775807 /\ qAd k w (.slice a n cap) (L.take n) := by
 obtain ⟨a, cap, hv, h1, h2, hc⟩ := h; have hl : (L.take n).length = n := by rw [List.length_take]; omega
 refine ⟨a, cap, hv, h1, h2, a, cap, by rw [hl], by omega, h2, fun h0 => ?_⟩; obtain ⟨b, off, ha, hlt, hcc⟩ := hc (by omega); exact ⟨b, off, ha, hlt, fun j hj => by rw [List.getElem_take]; exact hcc j (by omega)⟩
theorem qAd.at_ (h : qAd k w v L) {j : Nat} (hj : j < L.length) : ∃ b off cap, v = .slice (some ⟨b, off, none⟩) L.length cap /\ b < w.heap.size /\ w.cell? ⟨b, off + j, none⟩ = some (.int k (L[j] : Int)) := by
 obtain ⟨a, cap, rfl, h1, h2, hc⟩ := h; obtain ⟨b, off, rfl, hlt, hcc⟩ := hc (by omega); exact ⟨b, off, cap, rfl, hlt, hcc j hj⟩
end
theorem qCc {w w' : World} (h : w.grownBy w' none) : Below w.heap.size w w' := ⟨h.os, h.tape, h.output, h.size, fun k hk => h.block k hk (by simp)⟩
theorem qFl (k : IntKind) (n : Nat) : (madeCells (Value.int k 0).cells (n * 1)).toList = (List.replicate n 0).map (iv k) := by
 simp [madeCells, Value.cells, iv, Nat.mod_one, List.map_const']
theorem qAy {P : Program} (w : World) {ops : Array Oper} {rest : List Oper} {o : Oper} {a : Act} {Q : Exit -> Act -> World -> Prop}
 (hg : o.guard = none) (l c : Operand) (t : TypeId) (hop : o.op = Op.makeSlice t l c)
 (e : TypeId) (i : TypeInfo) (k : IntKind) (h1 : P.underlying t = some (.slice e)) (h2 : P.info? e = some i) (h3 : i.zero = some (.int k 0)) (h4 : i.size = 1)
 (kl kc : IntKind) (A C : Int) (n : Nat) (hl : a.eval l = .int kl A) (hc : a.eval c = .int kc C) (hA : A = (n : Int)) (hC : C = (n : Int)) (b2 : i.bytes * n <= 281474976710656) (b3 : n <= 9223372036854775807)
 (hK : ∀ w', Blk w' w.heap.size e k (List.replicate n 0) -> Below w.heap.size w w' -> w.heap.size < w'.heap.size -> wpList P ops Q rest (a.put o.dst (.slice (some ⟨w.heap.size, 0, none⟩) n n)) w') :
 wpList P ops Q (o :: rest) a w := by
 refine wpList_make_full w hg l c t hop w.heap.size e i _ 1 h1 h2 h3 h4 kl kc A C n hl hc hA hC b2 (by unfold maxLen; exact b3) (Nat.le_refl _) ?_; intro w' hown hgr; rw [qFl] at hown; have hblk : Blk w' w.heap.size e k (List.replicate n 0) := by
  rcases hown.2 with ⟨hv, _⟩ | ⟨g, cap, cur, hv, _, hb, hn, hm, hs, ht⟩
  ·cases hv
  ·injection hv with hv1 hv2 hv3
   injection hv1 with hv1; injection hv1 with hv1; subst hv1 hv3; unfold Blk; rw [hb]; have : cur.toList = (List.replicate n 0).map (iv k) := by
    rw [<- ht, List.take_of_length_le]; rw [Array.length_toList, hs]; exact Nat.le_refl _
   rw [<- this]
 exact hK w' hblk (qCc hgr) hblk.lt
theorem qAd.cells {k : IntKind} {w : World} {a : Option Addr} {n cap : Nat} {L : List Nat} (h : qAd k w (.slice a n cap) L) (h0 : 0 < L.length) : ∃ ad, a = some ad /\ ∀ j u, (L.map (iv k))[j]? = some u -> w.cell? (ad.add j) = some u := by
 obtain ⟨a', cap', hv, _, _, hc⟩ := h; injection hv with e1 e2 e3; subst e1; obtain ⟨b, off, rfl, hb, hcc⟩ := hc h0; refine ⟨_, rfl, fun j u hu => ?_⟩; have hj : j < L.length := by
  rcases Nat.lt_or_ge j L.length with h | h
  ·exact h
  ·rw [List.getElem?_eq_none (by rw [List.length_map]; exact h)] at hu; cases hu
 have hadd : (⟨b, off, none⟩ : Addr).add j = ⟨b, off + j, none⟩ := by unfold Addr.add; split <;> simp_all
 rw [List.getElem?_map, List.getElem?_eq_getElem hj] at hu; rw [hadd, hcc j hj]; exact hu
def One (w : World) (b : Nat) (t : TypeId) (v : Value) : Prop := w.heap[b]? = some (.cells #[v] t (0, 0))
section
variable {w w' : World} {b : Nat} {t : TypeId} {v : Value}
theorem One.lt (h : One w b t v) : b < w.heap.size := by
 rcases Nat.lt_or_ge b w.heap.size with hlt | hge
 ·exact hlt
 ·unfold One at h; rw [Array.getElem?_eq_none hge] at h; cases h
theorem One.cell (h : One w b t v) : w.cell? ⟨b, 0, none⟩ = some v := by
 rw [cell_of_row w b 0 _ t (0, 0) h]; rfl
theorem One.frozen (h : One w b t v) : w.frozen? ⟨b, 0, none⟩ = false := by
 unfold One at h; simp [World.frozen?, h]
theorem One.below {B : Nat} (h : One w b t v) (hb : Below B w w') (hg : b < B) : One w' b t v := (hb.block b hg).trans h
theorem One.set (h : One w b t v) (u : Value) : One (w.setCell ⟨b, 0, none⟩ u) b t u := by
 unfold One at h ⊢; simp [World.setCell, Array.getElem?_modify, h]
theorem One.far (h : One w b t v) {p : Addr} (hp : b ≠ p.block) (u : Value) : One (w.setCell p u) b t v := (Below.heap_setCell w p u b hp).trans h
theorem One.drewN (h : One w b t v) (n : Nat) : One (w.drewN n) b t v := h
theorem One.drew (h : One w b t v) : One w.drew b t v := h
theorem One.new (w : World) (t : TypeId) (v : Value) : One (w.alloc (.cells #[v] t)) w.heap.size t v := heap_alloc_new w _
theorem One.alloc (h : One w b t v) (o : Obj) : One (w.alloc o) b t v := (Below.heap_alloc w o b h.lt).trans h
end
structure qAc (S : Nat -> Prop) (w w' : World) : Prop where
 os : w'.os = w.os
 tape : w'.tape = w.tape
 output : w'.output = w.output
 size : w.heap.size <= w'.heap.size
 block : ∀ k, k < w.heap.size -> ¬ S k -> w'.heap[k]? = w.heap[k]?
section
variable {S S' : Nat -> Prop} {w w' w'' : World}
theorem qAc.refl (S : Nat -> Prop) (w : World) : qAc S w w := ⟨rfl, rfl, rfl, Nat.le_refl _, fun _ _ _ => rfl⟩
theorem qAc.trans (h : qAc S w w') (h' : qAc S w' w'') : qAc S w w'' :=
 ⟨h'.os.trans h.os, h'.tape.trans h.tape, h'.output.trans h.output, Nat.le_trans h.size h'.size, fun k hk hS => (h'.block k (Nat.lt_of_lt_of_le hk h.size) hS).trans (h.block k hk hS)⟩
theorem qAc.mono (h : qAc S w w') (hS : ∀ k, S k -> S' k) : qAc S' w w' := ⟨h.os, h.tape, h.output, h.size, fun k hk hn => h.block k hk (fun hs => hn (hS k hs))⟩
theorem qAc.set (h : qAc S w w') {p : Addr} (hp : S p.block) (u : Value) : qAc S w (w'.setCell p u) :=
 ⟨h.os, h.tape, h.output, by rw [show (w'.setCell p u).heap.size = w'.heap.size by simp [World.setCell]]; exact h.size, fun k hk hn => (Below.heap_setCell w' p u k (fun e => hn (e ▸ hp))).trans (h.block k hk hn)⟩
theorem qAc.drew (h : qAc S w w') : qAc S w w'.drew := ⟨h.os, h.tape, h.output, h.size, h.block⟩
theorem qAc.drewN (h : qAc S w w') (n : Nat) : qAc S w (w'.drewN n) := ⟨h.os, h.tape, h.output, h.size, h.block⟩
theorem qAc.of_below (h : Below w.heap.size w w') : qAc S w w' := ⟨h.os, h.tape, h.output, h.size, fun k hk _ => h.block k hk⟩
theorem qAc.below {B : Nat} {w0 : World} (h : qAc S w w') (hb : Below B w0 w) (hB : B <= w.heap.size) (hS : ∀ k, S k -> B <= k) : Below B w0 w' :=
 ⟨h.os.trans hb.os, h.tape.trans hb.tape, h.output.trans hb.output, Nat.le_trans hb.size h.size, fun k hk => (h.block k (by omega) (fun hs => by have := hS k hs; omega)).trans (hb.block k hk)⟩
theorem qAc.cell (h : qAc S w w') {p : Addr} (hp : ¬ S p.block) (hl : p.block < w.heap.size) : w'.cell? p = w.cell? p := World.cell?_of_block (w := w) (h.block _ hl hp)
theorem qAc.row (h : qAc S w w') {k : IntKind} {v : Value} {L : List Nat} (hr : qAd k w v L) (hS : ∀ b off cap, v = .slice (some ⟨b, off, none⟩) L.length cap -> ¬ S b) : qAd k w' v L := by
 obtain ⟨a, cap, hv, h1, h2, hc⟩ := hr; refine ⟨a, cap, hv, h1, h2, fun h0 => ?_⟩; obtain ⟨b, off, ha, hlt, hcc⟩ := hc h0; exact ⟨b, off, ha, Nat.lt_of_lt_of_le hlt h.size, fun j hj => (h.cell (p := ⟨b, off + j, none⟩) (hS b off cap (by rw [hv, ha])) hlt).trans (hcc j hj)⟩
theorem qAc.blk (h : qAc S w w') {g : Nat} {t : TypeId} {k : IntKind} {L : List Nat} (hb : Blk w g t k L) (hS : ¬ S g) : Blk w' g t k L := (h.block g hb.lt hS).trans hb
theorem qAc.one (h : qAc S w w') {g : Nat} {t : TypeId} {v : Value} (hb : One w g t v) (hS : ¬ S g) : One w' g t v := (h.block g hb.lt hS).trans hb
end
theorem qBR {P : Program} {w : World} {ops : Array Oper} {rest : List Oper} {o : Oper} {a : Act} {Q : Exit -> Act -> World -> Prop} (hgd : o.guard = none) (d s : Operand) (T : TypeId)
 (ho : o.op = .call { callee := .builtin .copy, args := #[d, s], argTypes := #[T, T] }) (e : TypeId) (hu : P.underlying T = some (.slice e)) (hsz : (P.info? e).map (·.size) = some 1)
 (k : IntKind) (g N cap : Nat) (L0 L : List Nat) (sp : Option Addr) (n scap : Nat) (hd : a.eval d = .slice (some ⟨g, 0, none⟩) N cap) (hs : a.eval s = .slice sp n scap) (hblk : Blk w g e k L0) (hL0 : L0.length = N) (hL : L.length = n) (hle : n <= N)
 (hrow : qAd k w (.slice sp n scap) L)
 (h : ∀ w', Blk w' g e k (L ++ L0.drop L.length) -> qAc (fun b => b = g) w w' -> w'.heap.size = w.heap.size -> wpList P ops Q rest (a.put o.dst (goInt L.length)) w') : wpList P ops Q (o :: rest) a w := by
 have hlm : (L.map (iv k)).length = L.length := List.length_map _; have hmin : Nat.min n N = n := Nat.min_eq_left hle; by_cases h0 : L.length = 0
 ·have hnil : L = [] := List.eq_nil_of_length_eq_zero h0
  refine wpList_copy_nothing hgd d s T T ho e hu hsz _ sp N cap n scap hd hs (by rw [hmin]; omega) ?_; have := h w (by rw [hnil]; simpa using hblk) (qAc.refl _ _) rfl; rw [h0] at this; exact this
 ·obtain ⟨ad, rfl, hsrc⟩ := hrow.cells (by omega)
  refine wpList_copy_own hgd d s T T ho e hu hsz g 0 N cap ad n scap hd hs (L0.map (iv k)).toArray e hblk (L.map (iv k)) (by rw [hlm, hmin, hL]) hsrc (by rw [hlm, List.size_toArray, List.length_map]; omega) ?_ ?_
  ·intro u hu
   obtain ⟨x, _, rfl⟩ := List.mem_map.1 hu; rfl
  ·have hset : Blk (w.setRow g (((L0.map (iv k)).toArray.toList.take 0 ++ (L.map (iv k) ++ (L0.map (iv k)).toArray.toList.drop (0 + (L.map (iv k)).length))).toArray)) g e k (L ++ L0.drop L.length) := by
    unfold Blk; rw [setRow_heap w g _ _ e _ hblk]; simp
   have := h _ hset ⟨rfl, rfl, rfl, by simp [World.setRow], fun b hb hne => ?_⟩ (by simp [World.setRow])
   ·rw [hlm] at this ⊢
    exact this
   ·simp [World.setRow, Array.getElem?_modify, Ne.symm hne]
theorem hZ {p : Prop} (h : p) : Go.RowKit.Hid p := Go.Lib.hid h
theorem _root_.Go.RowKit.Hid.o {p : Prop} (h : Go.RowKit.Hid p) : p := h
theorem aB {w w' : World} {o : Obj} (h : w.alloc o = w') : Below w.heap.size w w' := by subst h; exact (Below.refl _ _).alloc (Nat.le_refl _) _
theorem dB {w w' : World} (h : w.drew = w') : Below w.heap.size w w' := by subst h; exact (Below.refl _ _).drew
theorem bT {w0 w w' : World} (h : Hid (Below w0.heap.size w0 w)) (hB : Below w.heap.size w w') : Hid (Below w0.heap.size w0 w') := hZ (h.out.trans (hB.mono h.out.size))
theorem oT {S : Nat -> Prop} {w0 w w' : World} (h : Hid (qAc S w0 w)) (hB : Below w.heap.size w w') : Hid (qAc S w0 w') := hZ (h.out.trans (qAc.of_below hB))
class Mv (w w' : World) (p : Prop) (q : outParam Prop) : Prop where
  mv : Below w.heap.size w w' -> p -> q
theorem _root_.Go.RowKit.Hid.b {w w' : World} {p q : Prop} [i : Mv w w' p q] (h : Go.RowKit.Hid p) (hB : Below w.heap.size w w') : Go.RowKit.Hid q := hZ (i.mv hB h.out)
theorem eX {α : Sort _} (a : α) : ∃ x, a = x := ⟨_, rfl⟩
theorem eY {α : Sort _} (a : α) : ∃ x, x = a := ⟨_, rfl⟩
theorem cF {w : World} {b o : Nat} {v : Value} (e : w.cell? ⟨b, o, none⟩ = some v) (l : b < w.heap.size) : ∀ w', qAc (fun _ => False) w w' -> w'.cell? ⟨b, o, none⟩ = some v := fun _ h => (h.cell (p := ⟨b, o, none⟩) (fun h => h) l).trans e
theorem cT {S : Nat -> Prop} {w : World} {b o : Nat} {v : Value} (n : ¬ S b) (e : w.cell? ⟨b, o, none⟩ = some v) (l : b < w.heap.size) : ∀ w', qAc S w w' -> w'.cell? ⟨b, o, none⟩ = some v := fun _ h => (h.cell (p := ⟨b, o, none⟩) n l).trans e
abbrev Tx := List UInt8
end Go.Proofs.Ytlmbebbdamgfpaa
