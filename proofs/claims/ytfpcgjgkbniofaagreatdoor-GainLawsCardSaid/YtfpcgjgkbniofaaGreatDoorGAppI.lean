/- append of a list of numbers that may be nil; a block that begins with a list of numbers. -/
import Derived.Test.YtfpcgjgkbniofaaGreatDoorGApp
import Derived.Laws.AppendOwnNone
set_option linter.unusedVariables false
set_option linter.unusedSimpArgs false
namespace Go.Proofs.YtfpcgjgkbniofaaGreatDoor
open Go.RowKit

theorem run_app_nil {P : Program} {w : World} {base t ty e : Nat} {i : TypeInfo} {size : Nat} (ht : P.underlying t = some (.slice e)) (hi : P.info? e = some i) {v : Value} {n : Nat} {xs : List Value} (hown : w.ownsRow base e size v n xs) (c : Nat) :
    (Builtin.append_ #[t, t] ty #[v, .slice none 0 c]).run P w = .ok v w := by
  obtain ⟨hl, h⟩ := hown
  rcases h with ⟨rfl, rfl⟩ | ⟨g, cap, cur, rfl, _, _, hnc, _⟩
  · simp [Builtin.append_, run_underlying ht, sizeOf, typeInfo, hi, Builtin.lenOf, Builtin.firstCells]
  · simp [Builtin.append_, run_underlying ht, sizeOf, typeInfo, hi, Builtin.lenOf, Builtin.firstCells, hnc, storeCells]

/-- append(s, l...) of a list of numbers, nil or not -/
theorem wpList_appI {P : Program} {W0 w : World} {ops : Array Oper} {rest : List Oper} {o : Oper} {a : Act} {Q : Exit → Act → World → Prop} {B bytes : Nat} {t e : TypeId} (hE : Elem P t e 1 bytes) (hgd : o.guard = none) (s x : Operand)
    (ho : o.op = .call { callee := .builtin .append, args := #[s, x], argTypes := #[t, t] })
    (v u : Value) (n : Nat) (xs : List Value) (l : List Int) (hs : a.eval s = v) (hx : a.eval x = u) (hl : IntsOf w u l)
    (hown : w.ownsRow B e 1 v n xs) (hB : Below B W0 w) (hle : B ≤ w.heap.size) (hn : n + l.length ≤ 1000000000) (hby : bytes ≤ 1000)
    (h : ∀ v' w', Hid (w'.ownsRow B e 1 v' (n + l.length) (xs ++ l.map zv)) → Hid (Below B W0 w') → Hid (Only (fun b => v.ownBlock = some b) w w') → wpList P ops Q rest (a.put o.dst v') w') : wpList P ops Q (o :: rest) a w := by
  obtain ⟨ad, cap, rfl, h1, h2, hc⟩ := hl
  rcases Nat.eq_zero_or_pos l.length with h0 | h0
  · obtain rfl := List.eq_nil_of_length_eq_zero h0
    cases ad with
    | none =>
      obtain ⟨ht, i, z, hi, hz, hsize, hbyt, hzs, hk⟩ := hE
      refine wpList_plain hgd fun K hK => ?_
      have hrun := run_app_nil (P := P) (w := w) (base := B) (t := t) (ty := o.type) ht hi hown cap
      unfold Oper.wp
      simp [execOp, ho, resolve, invoke, builtin, hs, hx, hrun, Result.andThen]
      exact hK _ _ (h v w (Lib.hid (by simpa using hown)) (Lib.hid hB) (Lib.hid (Only.refl _ _)))
    | some ad =>
      exact wpList_appN (W0 := W0) (B := B) hE hgd s x ho v n xs hs ad 0 cap [] (by rw [hx]; rfl) rfl (fun j u hu => by simp at hu) (by simp) hown hB hle hn hby h
  · obtain ⟨b, rfl, hlt, hcc⟩ := hc h0
    refine wpList_appN (W0 := W0) (B := B) hE hgd s x ho v n xs hs ⟨b, 0, none⟩ l.length cap (l.map zv) hx (by simp) (fun j u hu => ?_) ?_ hown hB hle hn hby h
    · have hj : j < l.length := by
        rcases Nat.lt_or_ge j l.length with h3 | h3
        · exact h3
        · rw [List.getElem?_eq_none (by simpa using h3)] at hu; cases hu
      obtain ⟨cs, rfl, _, hcl⟩ := hcc j hj
      have hadd : (⟨b, 0, none⟩ : Addr).add j = ⟨b, j, none⟩ := by unfold Addr.add; split <;> simp_all
      have := hcl 0 (by omega)
      rw [Nat.mul_one, Nat.add_zero] at this
      rw [hadd, this]
      simpa [hj] using hu
    · intro u hu
      obtain ⟨y, _, rfl⟩ := List.mem_map.1 hu
      rfl

theorem own_full (w : World) (e : TypeId) (cs : List Value) (hm : cs.length ≤ 1000000000) : (w.alloc (.cells cs.toArray e)).ownsRow w.heap.size e 1 (.slice (some ⟨w.heap.size, 0, none⟩) cs.length cs.length) cs.length cs :=
  ⟨by simp, .inr ⟨w.heap.size, cs.length, cs.toArray, rfl, Nat.le_refl _, heap_alloc_new w _, Nat.le_refl _, by unfold maxLen; omega, by simp, by simp⟩⟩
theorem tail_of_own {w : World} {base t g n cap : Nat} {xs : List Value} (h : w.ownsRow base t 1 (.slice (some ⟨g, 0, none⟩) n cap) n xs) : ∃ tl, BlkC w g t (xs ++ tl) := by
  obtain ⟨hl, ho⟩ := h
  rcases ho with ⟨hv, _⟩ | ⟨g', cap', cur, hv, hb, hh, hn, hm, hs, ht⟩
  · cases hv
  · injection hv with e1 e2 e3
    injection e1 with e1
    injection e1 with e1
    subst e1
    refine ⟨cur.toList.drop (n * 1), ?_⟩
    rw [← ht, List.take_append_drop]
    exact hh
theorem ints_of_pre' {w : World} {g cap : Nat} {t : TypeId} {l : List Int} {tl : List Value} (h : BlkC w g t (l.map zv ++ tl)) (hc : l.length ≤ cap) (hc2 : cap ≤ 9223372036854775807) : IntsOf w (.slice (some ⟨g, 0, none⟩) l.length cap) l := by
  refine ⟨_, cap, rfl, hc, hc2, fun h0 => ⟨g, rfl, h.lt, fun j hj => ⟨_, rfl, rfl, fun i hi => ?_⟩⟩⟩
  obtain rfl : i = 0 := by omega
  rw [Nat.mul_one, Nat.add_zero, h.cell, List.getElem?_append_left (by simpa using hj)]
  simp [hj]
theorem pre_set' (l : List Int) (tl : List Value) (j : Nat) (x : Int) (h : j < l.length) : (l.map zv ++ tl).set j (.int .i64 x) = (l.set j x).map zv ++ tl := by
  rw [List.set_append_left _ _ (by simpa using h), List.map_set]
  rfl
/-- a row of one's own that is not nil: its numbers -/
theorem own_ints {w : World} {base t n : Nat} {v : Value} {l : List Int} (h : w.ownsRow base t 1 v n (l.map zv)) (hn : n = l.length) (h0 : 0 < n) : ∃ g cap, v = .slice (some ⟨g, 0, none⟩) l.length cap ∧ base ≤ g ∧ l.length ≤ cap ∧ cap ≤ 9223372036854775807 ∧ ∃ tl, BlkC w g t (l.map zv ++ tl) := by
  subst hn
  rcases h.2 with ⟨hv, hx⟩ | ⟨g, cap, cur, rfl, hb, hh, hnc, hm, hs, ht⟩
  · have : l = [] := by simpa using hx
    subst this
    simp at h0
  · exact ⟨g, cap, rfl, hb, hnc, by unfold maxLen at hm; exact hm, tail_of_own h⟩
end Go.Proofs.YtfpcgjgkbniofaaGreatDoor
