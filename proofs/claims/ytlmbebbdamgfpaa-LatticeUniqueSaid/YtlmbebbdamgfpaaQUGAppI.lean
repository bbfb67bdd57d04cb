/- append of a list of numbers that may be nil; a block that begins with a list of numbers. -/
import Derived.Test.YtlmbebbdamgfpaaQUGApp
import Derived.Laws.AppendOwnNone
set_option linter.unusedVariables false
set_option linter.unusedSimpArgs false
set_option linter.unusedVariables false
set_option linter.unusedSimpArgs false
namespace Go.Proofs.Ytlmbebbdamgfpaa
open Go.RowKit

theorem run_app_nil {P : Program} {w : World} {base t ty e : Nat} {i : TypeInfo} {size : Nat} (ht : P.underlying t = some (.slice e)) (hi : P.info? e = some i) {v : Value} {n : Nat} {xs : List Value} (hown : w.ownsRow base e size v n xs) (c : Nat) :
 (Builtin.append_ #[t, t] ty #[v, .slice none 0 c]).run P w = .ok v w := by
 obtain ⟨hl, h⟩ := hown
 rcases h with ⟨rfl, rfl⟩ | ⟨g, cap, cur, rfl, _, _, hnc, _⟩
 ·simp [Builtin.append_, run_underlying ht, sizeOf, typeInfo, hi, Builtin.lenOf, Builtin.firstCells]
 ·simp [Builtin.append_, run_underlying ht, sizeOf, typeInfo, hi, Builtin.lenOf, Builtin.firstCells, hnc, storeCells]

/-- append(s, l...) of a list of numbers, nil or not -/
theorem wpList_appI {P : Program} {W0 w : World} {ops : Array Oper} {rest : List Oper} {o : Oper} {a : Act} {Q : Exit → Act → World → Prop} {B bytes : Nat} {t e : TypeId} (hE : Elem P t e 1 bytes) (hgd : o.guard = none) (s x : Operand)
 (ho : o.op = .call { callee := .builtin .append, args := #[s, x], argTypes := #[t, t] })
 (v u : Value) (n : Nat) (xs : List Value) (l : List Int) (hs : a.eval s = v) (hx : a.eval x = u) (hl : IntsOf w u l)
 (hown : w.ownsRow B e 1 v n xs) (hB : Below B W0 w) (hle : B ≤ w.heap.size) (hn : n + l.length ≤ 1000000000) (hby : bytes ≤ 1000)
 (h : ∀ v' w', Hid (w'.ownsRow B e 1 v' (n + l.length) (xs ++ l.map zv)) → Hid (Below B W0 w') → Hid (Only (fun b => v.ownBlock = some b) w w') → wpList P ops Q rest (a.put o.dst v') w') : wpList P ops Q (o :: rest) a w := by
 obtain ⟨ad, cap, rfl, h1, h2, hc⟩ := hl
 rcases Nat.eq_zero_or_pos l.length with h0 | h0
 ·obtain rfl := List.eq_nil_of_length_eq_zero h0
  cases ad with
  | none =>
   obtain ⟨ht, i, z, hi, hz, hsize, hbyt, hzs, hk⟩ := hE
   refine wpList_plain hgd fun K hK => ?_
   have hrun := run_app_nil (P := P) (w := w) (base := B) (t := t) (ty := o.type) ht hi hown cap
   unfold Oper.wp
   simp [execOp, ho, resolve, invoke, builtin, hs, hx, hrun, Result.andThen]
   exact hK _ _ (h v w (Lib.hid (by simpa using hown)) (Lib.hid hB) (Lib.hid (Only.refl _ _)))
  | some ad =>
   exact wpList_appN (W0 := W0) (B := B) hE hgd s x ho v n xs hs ad 0 cap [] (by rw [hx]; rfl) rfl (fun j u hu => by simp at hu) (by simp) hown hB hle hn hby h
 ·obtain ⟨b, rfl, hlt, hcc⟩ := hc h0
  refine wpList_appN (W0 := W0) (B := B) hE hgd s x ho v n xs hs ⟨b, 0, none⟩ l.length cap (l.map zv) hx (by simp) (fun j u hu => ?_) ?_ hown hB hle hn hby h
  ·have hj : j < l.length := by
    rcases Nat.lt_or_ge j l.length with h3 | h3
    ·exact h3
    ·rw [List.getElem?_eq_none (by simpa using h3)] at hu; cases hu
   obtain ⟨cs, rfl, _, hcl⟩ := hcc j hj
   have hadd : (⟨b, 0, none⟩ : Addr).add j = ⟨b, j, none⟩ := by unfold Addr.add; split <;> simp_all
   have := hcl 0 (by omega)
   rw [Nat.mul_one, Nat.add_zero] at this
   rw [hadd, this]
   simpa [hj] using hu
  ·intro u hu
   obtain ⟨y, _, rfl⟩ := List.mem_map.1 hu
   rfl

end Go.Proofs.Ytlmbebbdamgfpaa
