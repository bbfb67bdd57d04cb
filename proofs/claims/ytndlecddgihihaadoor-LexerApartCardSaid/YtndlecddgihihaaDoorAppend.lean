/- append of one row of the call's own to another: the source may be nil. -/
import Derived.Laws.AppendOwnNone
import Derived.Laws.AppendOwn
import Derived.Below
import Derived.WalkKit
namespace Go.Proofs.YtndlecddgihihaaDoor
open Go.RowKit

theorem wpList_append_rows {P : Program} {w : World} {ops : Array Oper} {rest : List Oper} {o : Oper} {a : Act} {Q : Exit → Act → World → Prop} (hgd : o.guard = none) (s x : Operand) (t : TypeId)
    (ho : o.op = .call { callee := .builtin .append, args := #[s, x], argTypes := #[t, t] })
    (base : Nat) (e : TypeId) (i : TypeInfo) (z : Value) (size bytes : Nat) (ht : P.underlying t = some (.slice e)) (hi : P.info? e = some i) (hz : i.zero = some z)
    (hsize : i.size = size) (hby : i.bytes = bytes) (hzs : z.cells.size = size) (hsz : 0 < size)
    (v : Value) (n : Nat) (xs : List Value) (hs : a.eval s = v) (hown : w.ownsRow base e size v n xs)
    (base2 : Nat) (e2 : TypeId) (v2 : Value) (m : Nat) (ys : List Value) (hx : a.eval x = v2) (hown2 : w.ownsRow base2 e2 size v2 m ys) (h1 : ∀ u ∈ ys, u.oneCell' = true)
    (h63 : n + m ≤ maxLen) (hbytes : (n + m) * bytes ≤ 140737488355328) (hbase : base ≤ w.heap.size)
    (h : ∀ v' w', w'.ownsRow base e size v' (n + m) (xs ++ ys) → w.grownBy w' v.ownBlock → wpList P ops Q rest (a.put o.dst v') w') : wpList P ops Q (o :: rest) a w := by
  rcases hown2.2 with ⟨hv, hm⟩ | ⟨g, cap, cur, hv, hb, hg, hn, hc, hss, hts⟩
  · subst hm
    have hys : ys = [] := List.eq_nil_of_length_eq_zero (by simpa using hown2.1)
    subst hys
    refine wpList_append_own_none hgd s x t ho base e i size ht hi v n xs hs hown (by rw [hx, hv]) ?_
    refine h v w ?_ ⟨rfl, rfl, rfl, Nat.le_refl _, fun _ _ _ => rfl⟩
    simpa using hown
  · have hcells := hown2.cells (g := g) (by rw [hv]; rfl)
    exact wpList_append_own w hgd s x t ho base e i z size bytes ht hi hz hsize hby hzs hsz v n xs hs hown ⟨g, 0, none⟩ m cap ys (by rw [hx, hv]) hown2.1 hcells h1 h63 hbytes hbase (fun v' w' h2 h3 _ => h v' w' h2 h3)

/-- a row laid ahead of another is not the other's -/
theorem ownsRow_apart {W W' : World} {base e e' size size' n n' : Nat} {v v' : Value} {xs xs' : List Value} {B : Nat} (h : W.ownsRow base e size v n xs) (hB : W.heap.size ≤ B) (h' : W'.ownsRow B e' size' v' n' xs') : v.ownBlock = none ∨ v.ownBlock ≠ v'.ownBlock := by
  cases hb : v.ownBlock with
  | none => exact .inl rfl
  | some k =>
    refine .inr fun he => ?_
    have h1 := (h.lt k hb).2
    have h2 := (h'.lt k he.symm).1
    omega

end Go.Proofs.YtndlecddgihihaaDoor
