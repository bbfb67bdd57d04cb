/- the reference's integers: small, divided, Div, Gcd. -/
import Derived.Test.YtgfgjnkndfgdiaaDoorMem
import Derived.Laws.AppendOwnNone
import Derived.Test.YtgfgjnkndfgdiaaDoorR5Mul
import Derived.Test.YtgfgjnkndfgdiaaDoorRegLast
import Derived.Deep.LoopGhost
set_option linter.unusedVariables false
set_option linter.unusedSimpArgs false
namespace Go.Proofs.YtgfgjnkndfgdiaaDoor
open Go.RowKit

theorem run_append_owned_nil {P : Program} {w : World} (base : Nat) (t ty e : TypeId) (i : TypeInfo) (size : Nat) (ht : P.underlying t = some (.slice e)) (hi : P.info? e = some i)
    (v : Value) (n : Nat) (xs : List Value) (hown : w.ownsRow base e size v n xs) (c : Nat) :
    (Builtin.append_ #[t, t] ty #[v, .slice none 0 c]).run P w = .ok v w := by
  rcases hown.2 with ⟨rfl, rfl⟩ | ⟨g, cap, cur, rfl, _, _, hnc, _⟩
  · simp [Builtin.append_, run_underlying ht, sizeOf, typeInfo, hi, Builtin.lenOf, Builtin.firstCells]
  · simp [Builtin.append_, run_underlying ht, sizeOf, typeInfo, hi, Builtin.lenOf, Builtin.firstCells, hnc, storeCells]

theorem wpList_append_row {P : Program} {w : World} {ops : Array Oper} {rest : List Oper} {o : Oper} {a : Act} {Q : Exit → Act → World → Prop} (hgd : o.guard = none) (s x : Operand) (t : TypeId)
    (ho : o.op = .call { callee := .builtin .append, args := #[s, x], argTypes := #[t, t] })
    (base : Nat) (e : TypeId) (i : TypeInfo) (z : Value) (bytes : Nat) (ht : P.underlying t = some (.slice e)) (hi : P.info? e = some i) (hz : i.zero = some z)
    (hsize : i.size = 1) (hby : i.bytes = bytes) (hzs : z.cells.size = 1)
    (v : Value) (n : Nat) (xs : List Value) (hs : a.eval s = v) (hown : w.ownsRow base e 1 v n xs)
    (k : IntKind) (ra : Option Addr) (rl rc : Nat) (L : List Nat) (hx : a.eval x = .slice ra rl rc) (hrow : RowAt k w (.slice ra rl rc) L)
    (h63 : n + L.length ≤ maxLen) (hbytes : (n + L.length) * bytes ≤ 140737488355328) (hbase : base ≤ w.heap.size)
    (h : ∀ v' w', w'.ownsRow base e 1 v' (n + L.length) (xs ++ L.map (iv k)) → w.grownBy w' v.ownBlock → wpList P ops Q rest (a.put o.dst v') w') : wpList P ops Q (o :: rest) a w := by
  have hl : rl = L.length := by
    obtain ⟨_, _, hv, _⟩ := hrow
    injection hv
  subst hl
  cases ra with
  | none =>
    have h0 : L.length = 0 := by
      rcases Nat.eq_zero_or_pos L.length with h | h
      · exact h
      · obtain ⟨_, ha, _⟩ := hrow.cells h
        cases ha
    rw [h0] at hx
    refine wpList_plain hgd fun K hK => ?_
    have hrun := run_append_owned_nil (P := P) (w := w) base t o.type e i 1 ht hi v n xs hown rc
    unfold Oper.wp
    simp [execOp, ho, resolve, invoke, builtin, hs, hx, hrun, Result.andThen]
    refine hK _ _ (h v w ?_ (World.grownBy.refl w _))
    rw [h0, List.eq_nil_of_length_eq_zero h0]
    simpa using hown
  | some ad =>
    refine wpList_append_own w hgd s x t ho base e i z 1 bytes ht hi hz hsize hby hzs (by decide) v n xs hs hown ad L.length rc (L.map (iv k)) hx (by simp) (fun j u hu => ?_) (fun u hu => ?_) h63 hbytes hbase (fun v' w' h1 h2 _ => h v' w' h1 h2)
    · have h0 : 0 < L.length := by
        rcases Nat.eq_zero_or_pos L.length with h | h
        · rw [List.eq_nil_of_length_eq_zero h] at hu; simp at hu
        · exact h
      obtain ⟨ad', ha, hc⟩ := hrow.cells h0
      injection ha with ha
      subst ha
      exact hc j u hu
    · obtain ⟨y, _, rfl⟩ := List.mem_map.1 hu
      rfl


set_option maxRecDepth 100000 in
set_option maxHeartbeats 4000000 in
theorem rsmall_any (va : Value) (m k : Nat) (w : World) (ha : DigAt w va m) (hk : k < 10000) (hl : (digs T4 m).length ≤ 1048576) :
    Calls Tryd.prog 85 #[va, .int .i64 (k : Int)] w fun e w' => (∃ a l c, e = .returned (.slice a l c) ∧ DigAt w' (.slice a l c) (m * k)) ∧ Below w.heap.size w w' := by
  obtain ⟨aa, ca, rfl, h1, h2, h3⟩ := ha
  have HA : Hid (DigAt w (.slice aa (digs T4 m).length ca) m) := Lib.hid ⟨aa, ca, rfl, h1, h2, h3⟩
  obtain ⟨M, hM⟩ : ∃ M, (digs T4 m).length = M := ⟨_, rfl⟩
  rw [hM] at HA h1 hl ⊢
  have HM := Lib.hid hM
  clear h3 hM
  go_enter Tryd.func85, Tryd.ntmps85
  go_wp2_with fail
  refine (of_any (k : Int) w (by omega) (by omega)).mono ?_
  rintro e w1 ⟨⟨vr, rfl, hr⟩, hB⟩
  have Hr1 := Lib.hid hr
  obtain ⟨a1, l1, c1, rfl, -, -, -⟩ := hr.form
  have HB1 := Lib.hid hB
  clear hr hB
  have hk0 : decide ((k : Int) < 0) = false := decide_eq_false (by omega)
  rw [hk0] at Hr1 ⊢
  have HN : Hid (RInt w1 (.agg #[.bool false, .slice aa M ca]) (m : Int)) := Lib.hid ⟨_, by rw [decide_eq_false (by omega)], RowAt.below HA.out (Nat.le_refl _) HB1.out⟩
  go_wp2_with fail
  refine (rmul_any _ _ (m : Int) (k : Int) w1 HN.out Hr1.out (by rw [Int.natAbs_natCast, HM.out]; exact hl) (Nat.le_trans (t4_len _ (by omega)) (by omega))).mono ?_
  rintro e w2 ⟨⟨vr, rfl, hr⟩, hB⟩
  have Hr2 := Lib.hid hr
  obtain ⟨a2, l2, c2, rfl, -, -, -⟩ := hr.form
  have HB2 := Lib.hid hB
  clear hr hB
  have hk1 : decide ((m : Int) * (k : Int) < 0) = false := decide_eq_false (by have : (0 : Int) ≤ (m : Int) * (k : Int) := Int.mul_nonneg (by omega) (by omega); omega)
  rw [hk1] at Hr2 ⊢
  have HB3 := Lib.hid ((HB1.out.trans (HB2.out.mono HB1.out.size)).alloc (Nat.le_trans HB1.out.size HB2.out.size) (.cells #[.bool false, .slice a2 l2 c2] 25))
  go_wp2
  refine bodyPost_ret (v := .slice a2 l2 c2) (by simp [results, Tryd.results85, go_sem]) rfl ⟨⟨_, _, _, rfl, ?_⟩, HB3.out⟩
  obtain ⟨vd, hv, hm⟩ := Hr2.out
  injection hv with hv
  have hv2 : vd = .slice a2 l2 c2 := (by simpa using hv.symm : 0 ≤ (m : Int) * (k : Int) ∧ vd = .slice a2 l2 c2).2
  rw [hv2, Int.natAbs_mul, Int.natAbs_natCast, Int.natAbs_natCast] at hm
  exact RowAt.below hm (Nat.le_refl _) ((Below.refl _ w2).alloc (Nat.le_refl _) _)

theorem len_mul (m k : Nat) (hk : k < 10000) : (digs T4 (m * k)).length ≤ (digs T4 m).length + 1 := by
  have h := val_lt T4 (by decide) _ (digs_low T4 t4_two m)
  rw [val_digs T4 t4_two] at h
  refine digs_len_le T4 t4_two _ _ ?_
  rw [Nat.pow_succ]
  exact Nat.mul_lt_mul'' h hk
theorem len_lt (m d : Nat) (h : m < d * T4) : (digs T4 m).length ≤ (digs T4 d).length + 1 := by
  have h1 := val_lt T4 (by decide) _ (digs_low T4 t4_two d)
  rw [val_digs T4 t4_two] at h1
  refine digs_len_le T4 t4_two _ _ ?_
  rw [Nat.pow_succ]
  exact Nat.lt_trans h (Nat.mul_lt_mul_of_pos_right h1 (by decide))

/-- before the digits below k of the quotient are done -/
structure RDivI (d m : Nat) (A : List Nat) (k R : Nat) (Q : List Nat) : Prop where
  len : Q.length = A.length
  low : Low T4 Q
  zero : ∀ j (h : j < Q.length), j < k → Q[j] = 0
  rl : R < d
  eq : d * val T4 Q + R * T4 ^ k + val T4 (A.take k) = m

theorem RDivI.start (d : Nat) (A : List Nat) (hd : d ≠ 0) : RDivI d (val T4 A) A A.length 0 (List.replicate A.length 0) :=
  ⟨by simp, fun x hx => by rw [(List.mem_replicate.1 hx).2]; decide, fun j h _ => by simp, by omega, by rw [val_zeros T4 _ (fun x hx => (List.mem_replicate.1 hx).2), List.take_length]; simp⟩

theorem RDivI.next {d m : Nat} {A : List Nat} {k R : Nat} {Q : List Nat} (h : RDivI d m A (k + 1) R Q) (hk : k < A.length) (hq : k < Q.length) (hA : Low T4 A) :
    A[k] + T4 * R < d * T4 ∧ RDivI d m A k ((A[k] + T4 * R) % d) (Q.set k ((A[k] + T4 * R) / d)) := by
  have ha : A[k] < T4 := hA _ (List.getElem_mem hk)
  have hrl := h.rl
  have h1 : A[k] + T4 * R < d * T4 := by
    have h2 : T4 * (R + 1) ≤ T4 * d := Nat.mul_le_mul_left _ hrl
    rw [Nat.mul_add, Nat.mul_one] at h2
    rw [Nat.mul_comm d]
    omega
  have hd : 0 < d := by omega
  refine ⟨h1, by rw [List.length_set]; exact h.len, low_set h.low _ _ (Nat.div_lt_of_lt_mul h1), fun j hj hjk => ?_, Nat.mod_lt _ hd, ?_⟩
  · rw [List.getElem_set_ne (by omega)]
    exact h.zero j (by rw [List.length_set] at hj; exact hj) (by omega)
  · have e1 := val_set T4 Q k ((A[k] + T4 * R) / d) hq
    rw [h.zero k hq (by omega), Nat.zero_mul, Nat.add_zero] at e1
    have e2 := h.eq
    rw [val_take_succ T4 A k hk, Nat.pow_succ] at e2
    have e3 := Nat.div_add_mod (A[k] + T4 * R) d
    rw [e1]
    generalize (A[k] + T4 * R) / d = q at *
    generalize (A[k] + T4 * R) % d = r at *
    generalize T4 ^ k = X at *
    generalize val T4 Q = v at *
    generalize val T4 (A.take k) = u at *
    generalize A[k] = a at *
    generalize T4 = B at *
    clear h h1 ha e1
    grind

theorem RDivI.done {d m : Nat} {A : List Nat} {R : Nat} {Q : List Nat} (h : RDivI d m A 0 R Q) : val T4 Q = m / d ∧ R = m % d := by
  have h1 := h.eq
  have h2 := h.rl
  simp only [Nat.pow_zero, Nat.mul_one, List.take_zero, val, Nat.add_zero] at h1
  have hp : 0 < d := by omega
  have hq : m / d = val T4 Q ∧ m % d = R := (Nat.div_mod_unique hp).2 ⟨by omega, h2⟩
  exact ⟨hq.1.symm, hq.2.symm⟩

set_option maxRecDepth 100000 in
set_option maxHeartbeats 4000000 in
theorem rdivided_any (va vb : Value) (m d : Nat) (w : World) (ha : DigAt w va m) (hb : DigAt w vb d) (hd : d ≠ 0) (hl : (digs T4 m).length ≤ 500000) (hl2 : (digs T4 d).length ≤ 500000) :
    Calls Tryd.prog 67 #[va, vb] w fun e w' => (∃ vq vr L, e = .returned (.tuple #[vq, vr]) ∧ RowAt .i64 w' vq L ∧ Low T4 L ∧ L.length = (digs T4 m).length ∧ val T4 L = m / d ∧ DigAt w' vr (m % d)) ∧ Below w.heap.size w w' := by
  obtain ⟨i0, hi, hz0, hz1, hz2⟩ := info_parts infoInt
  have Hi := Lib.hid hi
  have Hz0 := Lib.hid hz0
  have Hz1 := Lib.hid hz1
  have Hz2 := Lib.hid hz2
  clear hi hz0 hz1 hz2
  obtain ⟨aa, ca, rfl, h1, h2, h3⟩ := ha
  have HA : Hid (DigAt w (.slice aa (digs T4 m).length ca) m) := Lib.hid ⟨aa, ca, rfl, h1, h2, h3⟩
  obtain ⟨ab, cb, rfl, h4, h5, h6⟩ := hb
  have HB : Hid (DigAt w (.slice ab (digs T4 d).length cb) d) := Lib.hid ⟨ab, cb, rfl, h4, h5, h6⟩
  clear h3 h6
  obtain ⟨M, hM⟩ : ∃ M, (digs T4 m).length = M := ⟨_, rfl⟩
  obtain ⟨N, hN⟩ : ∃ N, (digs T4 d).length = N := ⟨_, rfl⟩
  rw [hM] at HA h1 hl ⊢
  rw [hN] at HB h4 hl2 ⊢
  have HM := Lib.hid hM
  have HN := Lib.hid hN
  clear hM hN
  go_enter Tryd.func67, Tryd.ntmps67
  go_wp2_with (at_make; refine wpList_make_blk _ rfl _ _ 22 rfl 3 i0 .i64 Tryd.underlying22 Hi.out Hz0.out Hz1.out _ _ _ _ M rfl rfl rfl rfl (by rw [Hz2.out]; omega) (by omega) ?_)
  intro w1 hblk1 hB1 hz1
  obtain ⟨g, hg⟩ : ∃ g, w.heap.size = g := ⟨_, rfl⟩
  have Hg := Lib.hid hg
  rw [hg] at hblk1 hB1 hz1 ⊢
  have Hblk1 := Lib.hid hblk1
  have HB1 := Lib.hid hB1
  clear hg hblk1 hB1
  have HI0 : Hid (RDivI d m (digs T4 m) M 0 (List.replicate M 0)) := Lib.hid (by have := RDivI.start d (digs T4 m) hd; rw [val_digs T4 t4_two, HM.out] at this; exact this)
  go_wp2_with fail
  go_loopg [7, 8] M (fun k rv iv' wr => ∃ (R : Nat) (ra : Option Addr) (rl rc : Nat) (Q : List Nat), k ≤ M ∧ rv = .slice ra rl rc ∧ iv' = .int .i64 ((k : Int) - 1) ∧ Hid (RDivI d m (digs T4 m) k R Q) ∧ Hid (DigAt wr (.slice ra rl rc) R) ∧ Hid (Blk wr g 3 .i64 Q) ∧ Hid (Below g w wr))
  case atStart => exact ⟨0, none, 0, 0, _, Nat.le_refl _, rfl, rfl, HI0, Lib.hid (RowAt.nil _ _ (by omega)), Hblk1, HB1⟩
  case round =>
    obtain ⟨R, ra, rl, rc, Q, hk, rfl, rfl, hI, hR, hbQ, hB⟩ := hrel
    clear HI0 Hblk1 HB1
    cases gk with
    | zero =>
      have e1 : ((0 : Nat) : Int) - 1 = -1 := by omega
      rw [e1]
      have hdn := hI.out.done
      have hQl : Q.length = M := by rw [hI.out.len]; exact HM.out
      have Hrow := Lib.hid (RowAt.of_blk hbQ.out (cap := M) (by omega) (by omega))
      rw [hQl] at Hrow
      have Hres := Lib.hid (And.intro hI.out.low (And.intro hQl hdn.1))
      have HR2 := Lib.hid hdn.2
      clear hdn hQl
      go_wp2
      refine bodyPost_ret (v := .tuple #[.slice (some ⟨g, 0, none⟩) M M, .slice ra rl rc]) (by simp [results, Tryd.results67, go_sem]) rfl ⟨⟨_, _, Q, rfl, Hrow.out, Hres.out.1, Hres.out.2.1, Hres.out.2.2, ?_⟩, ?_⟩
      · rw [← HR2.out]; exact hR.out
      · rw [Hg.out]; exact hB.out
    | succ k =>
      have e1 : ((k + 1 : Nat) : Int) - 1 = (k : Int) := by omega
      rw [e1]
      have hkA : k < (digs T4 m).length := by rw [HM.out]; omega
      have hkQ : k < Q.length := by rw [hI.out.len]; exact hkA
      obtain ⟨b, off, rfl, hbl, hcc⟩ := RowAt.whole HA.out (by omega)
      have ca := (hB.out.cell (p := ⟨b, off + k, none⟩) (by rw [← Hg.out]; exact hbl)).trans (hcc k hkA)
      have hak : (digs T4 m)[k] < 10000 := digs_low T4 t4_two m _ (List.getElem_mem hkA)
      have hnx := hI.out.next hkA hkQ (digs_low T4 t4_two m)
      have Hlt := Lib.hid hnx.1
      have HI2 := Lib.hid hnx.2
      generalize (digs T4 m)[k] = ak at *
      obtain ⟨_, _, hv, hrl, hrc, -⟩ := id hR.out
      injection hv with e2 e3 e4
      subst e2 e3 e4
      have HRl := Lib.hid (show (digs T4 R).length ≤ N by rw [← HN.out]; exact digs_len_mono T4 t4_two _ _ (Nat.le_of_lt hI.out.rl))
      have hs1 := hB.out.size
      rw [Hg.out] at hs1
      have Hown1 : Hid ((wr.alloc (.cells #[.int .i64 (ak : Int)] 3)).ownsRow wr.heap.size 3 1 (.slice (some ⟨wr.heap.size, 0, none⟩) 1 1) 1 [iv .i64 ak]) := Lib.hid (World.ownsRow_lit wr #[.int .i64 (ak : Int)] 1 (Nat.le_refl _) (by unfold maxLen; omega) rfl)
      have HR1 := Lib.hid (RowAt.below hR.out (Nat.le_refl _) ((Below.refl _ wr).alloc (Nat.le_refl _) (.cells #[.int .i64 (ak : Int)] 3)))
      have HRl2 : Hid (∀ L, L = digs T4 R → L.length ≤ N) := Lib.hid (fun L e => by rw [e]; exact HRl.out)
      clear hcc hnx hkA
      generalize (digs T4 R).length = rl at *
      go_wp2_with (at_builtin; go_loud (refine wpList_append_row rfl _ _ 22 rfl wr.heap.size 3 i0 _ 8 Tryd.underlying22 Hi.out Hz0.out Hz1.out Hz2.out rfl _ 1 _ rfl Hown1.out .i64 ra rl rc (digs T4 R) rfl HR1.out (by have := HRl2.out _ rfl; unfold maxLen; omega) (by have := HRl2.out _ rfl; omega) (by simp) ?_))
      intro v2 w2 hown2 hgrow2
      obtain ⟨g2, c2, hv2, _⟩ := hown2.form (by omega)
      subst hv2
      have HB2 := Lib.hid (((Below.refl wr.heap.size wr).alloc (Nat.le_refl _) (.cells #[.int .i64 (ak : Int)] 3)).grown hgrow2 (by simp) (fun j e => by
        have e' : wr.heap.size = j := by simpa [Value.ownBlock] using e
        omega))
      have Hrow2 := Lib.hid (RowAt.of_owns (k := .i64) (L := ak :: digs T4 R) (by simpa [iv] using hown2) (by simp; omega))
      clear hown2 hgrow2 Hown1 HR1
      have Hnorm := Lib.hid (normal_any false _ (ak :: digs T4 R) w2 Hrow2.out (fun y hy => by
        rcases List.mem_cons.1 hy with rfl | hy
        · exact hak
        · exact digs_low T4 t4_two R y hy) (by have := HRl2.out _ rfl; simp; omega))
      have hvl : val T4 (ak :: digs T4 R) = ak + T4 * R := by show ak + T4 * val T4 (digs T4 R) = _; rw [val_digs T4 t4_two]
      rw [hvl] at Hnorm
      clear hvl Hrow2
      obtain ⟨V, hV⟩ : ∃ V, ak + T4 * R = V := ⟨_, rfl⟩
      rw [hV] at Hnorm Hlt HI2
      clear hV
      have hs2 := HB2.out.size
      go_wp2_with fail
      refine (Hnorm.out).mono ?_
      rintro e w3 ⟨⟨vr, rfl, hr⟩, hB⟩
      have Hr3 := Lib.hid hr
      obtain ⟨a3, l3, c3, rfl, -, -, -⟩ := hr.form
      have HB3 := Lib.hid hB
      clear hr hB
      have hV0 : decide (sgn false V < 0) = false := decide_eq_false (by show ¬ ((V : Int) < 0); omega)
      rw [hV0] at Hr3 ⊢
      have HV3 : Hid (DigAt w3 (.slice a3 l3 c3) V) := Lib.hid (by
        obtain ⟨vd, hv, hm⟩ := Hr3.out
        injection hv with hv
        have hv2 : vd = .slice a3 l3 c3 := by
          have := congrArg (fun a => a[1]?) hv
          simpa using this.symm
        rw [hv2, sgn_natAbs] at hm
        exact hm)
      obtain ⟨w4, hw4⟩ : ∃ w4, w3.alloc (.cells #[.bool false, .slice a3 l3 c3] 25) = w4 := ⟨_, rfl⟩
      have HB34 : Hid (Below w3.heap.size w3 w4) := Lib.hid (by rw [← hw4]; exact (Below.refl _ w3).alloc (Nat.le_refl _) _)
      have HV4 := Lib.hid (RowAt.below HV3.out (Nat.le_refl _) HB34.out)
      have HB4 := Lib.hid ((HB2.out.trans (HB3.out.mono hs2)).trans (HB34.out.mono (Nat.le_trans hs2 HB3.out.size)))
      have HbQ4 : Hid (Blk w4 g 3 .i64 Q) := Lib.hid (hbQ.out.below HB4.out hbQ.out.lt)
      have HBg4 := Lib.hid (hB.out.trans (HB4.out.mono hs1))
      have ct : w4.cell? ⟨w3.heap.size, 1, none⟩ = some (.slice a3 l3 c3) := by rw [← hw4]; exact (Two.new w3 _ _ _).cell1
      clear hV0 Hr3 HV3 HB34 HB3 HB2 Hnorm
      go_wp2_with fail
      clear hw4 ct
      have hdp : 0 < d := by omega
      have hql : V / d < 10000 := Nat.div_lt_of_lt_mul Hlt.out
      have Hql := Lib.hid hql
      have Hd0 := Lib.hid hdp
      have Hsm := Lib.hid (fun (w' : World) q (hq : q < 10000) (hb : Below g w w') => rsmall_any (.slice ab N cb) d q w' (RowAt.below HB.out (Nat.le_of_eq Hg.out) hb) hq (by rw [HN.out]; omega))
      have HVl := Lib.hid (len_lt V d Hlt.out)
      have hs4 := HBg4.out.size
      rw [Hg.out] at hs4
      clear hql
      go_loopg [10, 11] 9999 (fun j lv hv wy => ∃ (lo hi : Nat), lv = .int .i64 (lo : Int) ∧ hv = .int .i64 (hi : Int) ∧ lo + j = hi ∧ hi ≤ 9999 ∧ Hid (lo ≤ V / d ∧ V / d ≤ hi) ∧ Hid (Below w4.heap.size w4 wy))
      case atStart => exact ⟨0, 9999, rfl, rfl, by omega, by omega, Lib.hid ⟨Nat.zero_le _, by have := Hql.out; exact Nat.le_of_lt_succ this⟩, Lib.hid (Below.refl _ _)⟩
      case round =>
        obtain ⟨lo, hi, rfl, rfl, hlh, hhi, hin, hBy⟩ := hrel
        obtain ⟨wy, hwy⟩ : ∃ wy, wy = wr := ⟨_, rfl⟩
        subst hwy
        have HBgy := Lib.hid (HBg4.out.trans (hBy.out.mono hs4))
        have HVy := Lib.hid (RowAt.below HV4.out (Nat.le_refl _) hBy.out)
        cases gk with
        | zero =>
          have hlt : ¬ ((lo : Int) < (hi : Int)) := by omega
          have hqe : lo = V / d := by have h9 := hin.out; obtain ⟨ha, hb⟩ := h9; exact Nat.le_antisymm ha (Nat.le_trans hb (by omega))
          have hdl : d * lo ≤ V := by rw [hqe]; exact Nat.mul_div_le V d
          have hre : V - d * lo = V % d := by rw [hqe]; have := Nat.div_add_mod V d; omega
          have Hdl := Lib.hid hdl
          have Hre := Lib.hid hre
          rw [← hqe] at HI2
          clear hqe hdl hre
          go_wp2_with fail
          refine (Hsm.out wy lo (by omega) HBgy.out).mono ?_
          rintro e w5 ⟨⟨a5, l5, c5, rfl, hm5⟩, hB5⟩
          have Hm5 := Lib.hid hm5
          have HB5 := Lib.hid hB5
          have HV5 := Lib.hid (RowAt.below HVy.out (Nat.le_refl _) hB5)
          clear hm5 hB5
          go_wp2_with fail
          refine (rminus_own _ _ V (d * lo) w5 HV5.out Hm5.out Hdl.out (by have := HVl.out; rw [HN.out] at this; omega)).mono ?_
          rintro e w6 ⟨⟨v6, L6, rfl, hr6, lo6, hv6, hl6, hf6⟩, hB6⟩
          rw [Hre.out] at hv6
          have HB6 := Lib.hid (HB5.out.trans (hB6.mono HB5.out.size))
          have Hnorm := Lib.hid (normal_at false v6 L6 w6 hr6 lo6 (by have := HVl.out; rw [HN.out] at this; omega))
          have Hv6 := Lib.hid hv6
          clear hv6
          obtain ⟨a6, c6, hv6, -⟩ := id hr6
          subst hv6
          have Hf6 := Lib.hid (fun (ad : Addr) (e : a6 = some ad) => hf6 ad L6.length c6 (by rw [e]))
          clear hr6 lo6 hB6 hl6 hf6
          obtain ⟨l6, hl6⟩ : ∃ l6, L6.length = l6 := ⟨_, rfl⟩
          rw [hl6] at Hnorm ⊢
          clear hl6
          obtain ⟨R2, hR2⟩ : ∃ R2, V % d = R2 := ⟨_, rfl⟩
          rw [hR2] at Hv6 HI2
          go_wp2_with fail
          refine (Hnorm.out).mono ?_
          rintro e w7 ⟨⟨a7, c7, b7, l7, hv7, rfl, hr7⟩, hB7⟩
          injection hv7 with e7 _ e8
          subst e7 e8
          rw [Hv6.out] at hr7
          have Hr7 := Lib.hid hr7
          have HB7 := Lib.hid hB7
          obtain ⟨vd7, hvd7, -⟩ := hr7
          injection hvd7 with hvd7
          have hb7 : b7 = false := by
            have := congrArg (fun a => a[0]?) hvd7
            have h9 : decide (sgn false R2 < 0) = false := decide_eq_false (by show ¬ ((R2 : Int) < 0); omega)
            simpa [h9] using this
          subst hb7
          clear hvd7 hB7
          have HV7 : Hid (DigAt w7 (.slice a6 l7 c6) R2) := Lib.hid (by
            obtain ⟨vd, hv, hm⟩ := Hr7.out
            injection hv with hv
            have hv2 : vd = .slice a6 l7 c6 := by
              have := congrArg (fun a => a[1]?) hv
              simpa using this.symm
            rw [hv2, sgn_natAbs] at hm
            exact hm)
          obtain ⟨w8, hw8⟩ : ∃ w8, w7.alloc (.cells #[.bool false, .slice a6 l7 c6] 25) = w8 := ⟨_, rfl⟩
          have HB78 : Hid (Below w7.heap.size w7 w8) := Lib.hid (by rw [← hw8]; exact (Below.refl _ w7).alloc (Nat.le_refl _) _)
          have HV8 := Lib.hid (RowAt.below HV7.out (Nat.le_refl _) HB78.out)
          have HB8 := Lib.hid ((HB6.out.trans (HB7.out.mono HB6.out.size)).trans (HB78.out.mono (Nat.le_trans HB6.out.size HB7.out.size)))
          have HbQ8 : Hid (Blk w8 g 3 .i64 Q) := Lib.hid ((HbQ4.out.below hBy.out HbQ4.out.lt).below HB8.out (HbQ4.out.below hBy.out HbQ4.out.lt).lt)
          have HBg8 := Lib.hid (HBgy.out.trans (HB8.out.mono (by have := HBgy.out.size; rw [Hg.out] at this; exact this)))
          have ct : w8.cell? ⟨w7.heap.size, 1, none⟩ = some (.slice a6 l7 c6) := by rw [← hw8]; exact (Two.new w7 _ _ _).cell1
          have hg7 : g < w7.heap.size := by
            have h1 := (HbQ4.out.below hBy.out HbQ4.out.lt).lt
            have h2 := HB6.out.size
            have h3 := HB7.out.size
            omega
          have cq := HbQ8.out.cell k hkQ
          have fq := HbQ8.out.frozen k
          have ct2 : (w8.setCell ⟨g, k, none⟩ (.int .i64 (lo : Int))).cell? ⟨w7.heap.size, 1, none⟩ = some (.slice a6 l7 c6) := by
            rw [← ct]
            exact World.cell?_of_block (Below.heap_setCell w8 ⟨g, k, none⟩ _ w7.heap.size (by show w7.heap.size ≠ g; omega))
          clear Hr7 HV7 HB78 HB7 Hnorm ct
          go_wp2_with fail
          go_roundg k
          case measure => omega
          case rel =>
            refine ⟨R2, a6, l7, c6, Q.set k lo, by omega, rfl, by first | rfl | go_num, HI2, Lib.hid ?_, Lib.hid (HbQ8.out.set k lo), Lib.hid (HBg8.out.setCell (p := ⟨g, k, none⟩) (Nat.le_refl _) _)⟩
            have hO : Only (fun j => j = g) w8 (w8.setCell ⟨g, k, none⟩ (.int .i64 (lo : Int))) := (Only.refl (fun j => j = g) w8).set (p := ⟨g, k, none⟩) rfl _
            refine hO.row HV8.out (fun b' off' cap' e => ?_)
            injection e with e1
            have h1 := Hf6.out _ e1
            have h2 := HB5.out.size
            have h3 := (HbQ4.out.below hBy.out HbQ4.out.lt).lt
            show ¬ b' = g
            have h4 : w5.heap.size ≤ b' := h1
            omega
        | succ j =>
          obtain ⟨mid, hmid⟩ : ∃ mid, (lo + hi + 1) / 2 = mid := ⟨_, rfl⟩
          have hm1 : lo < mid := by omega
          have hm2 : mid ≤ hi := by omega
          have hmI : ((lo : Int) + (hi : Int) + 1) / 2 = (mid : Int) := by omega
          have hlt : (lo : Int) < (hi : Int) := by omega
          clear hmid
          go_wp2_with fail
          refine (Hsm.out wy mid (by omega) HBgy.out).mono ?_
          rintro e w5 ⟨⟨a5, l5, c5, rfl, hm5⟩, hB5⟩
          have Hm5 := Lib.hid hm5
          have HB5 := Lib.hid hB5
          have HV5 := Lib.hid (RowAt.below HVy.out (Nat.le_refl _) hB5)
          clear hm5 hB5
          go_wp2_with fail
          refine (compared_any _ _ (d * mid) V w5 Hm5.out HV5.out (by have := len_mul d mid (by omega); rw [HN.out] at this; omega) (by have := HVl.out; rw [HN.out] at this; omega)).mono ?_
          rintro e w6 ⟨rfl, k6, rfl⟩
          have HB6 := Lib.hid (show Below w4.heap.size w4 (w5.drewN k6) from ⟨(hBy.out.trans (HB5.out.mono hBy.out.size)).os, (hBy.out.trans (HB5.out.mono hBy.out.size)).tape, (hBy.out.trans (HB5.out.mono hBy.out.size)).output, (hBy.out.trans (HB5.out.mono hBy.out.size)).size, (hBy.out.trans (HB5.out.mono hBy.out.size)).block⟩)
          by_cases hc : d * mid ≤ V
          · have hc3 : cmp3 ((d * mid : Nat) : Int) (V : Int) ≤ 0 := by
              unfold cmp3
              split
              · omega
              · rw [if_neg (by omega)]; omega
            have Hin : Hid (mid ≤ V / d ∧ V / d ≤ hi) := Lib.hid ⟨(Nat.le_div_iff_mul_le Hd0.out).2 (by rw [Nat.mul_comm]; exact hc), hin.out.2⟩
            generalize cmp3 ((d * mid : Nat) : Int) (V : Int) = C at *
            clear hc
            go_wp2_with fail
            go_roundg (hi - mid)
            case measure => omega
            case rel => exact ⟨mid, hi, rfl, rfl, by omega, hhi, Hin, HB6⟩
          · have hc3 : ¬ (cmp3 ((d * mid : Nat) : Int) (V : Int) ≤ 0) := by
              unfold cmp3
              rw [if_neg (by omega), if_pos (by omega)]
              omega
            have Hin : Hid (lo ≤ V / d ∧ V / d ≤ mid - 1) := Lib.hid ⟨hin.out.1, Nat.le_sub_one_of_lt ((Nat.div_lt_iff_lt_mul Hd0.out).2 (by rw [Nat.mul_comm]; omega))⟩
            generalize cmp3 ((d * mid : Nat) : Int) (V : Int) = C at *
            have hmm : (mid : Int) - 1 = ((mid - 1 : Nat) : Int) := by omega
            clear hc
            go_wp2_with fail
            go_roundg (mid - 1 - lo)
            case measure => omega
            case rel => exact ⟨lo, mid - 1, rfl, by first | rfl | go_num, by omega, by omega, Hin, HB6⟩

end Go.Proofs.YtgfgjnkndfgdiaaDoor
