/- the reference's integers: Power. -/
import Derived.Test.YtlmbebbdamgfpaaQHDecimal
import Derived.Laws.AppendOwnNone
import Derived.Test.YtlmbebbdamgfpaaQHR5Mul
import Derived.Test.YtlmbebbdamgfpaaQHRegLast
import Derived.Deep.LoopGhost
set_option linter.unusedVariables false
set_option linter.unusedSimpArgs false
set_option maxHeartbeats 4000000
set_option maxRecDepth 100000
namespace Go.Proofs.Ytlmbebbdamgfpaa
open Go.RowKit
theorem qCJ {P : Program} {w : World} (base : Nat) (t ty e : TypeId) (i : TypeInfo) (size : Nat) (ht : P.underlying t = some (.slice e)) (hi : P.info? e = some i)
 (v : Value) (n : Nat) (xs : List Value) (hown : w.ownsRow base e size v n xs) (c : Nat) :
 (Builtin.append_ #[t, t] ty #[v, .slice none 0 c]).run P w = .ok v w := by
 rcases hown.2 with ⟨rfl, rfl⟩ | ⟨g, cap, cur, rfl, _, _, hnc, _⟩
 ·simp [Builtin.append_, run_underlying ht, sizeOf, typeInfo, hi, Builtin.lenOf, Builtin.firstCells]
 ·simp [Builtin.append_, run_underlying ht, sizeOf, typeInfo, hi, Builtin.lenOf, Builtin.firstCells, hnc, storeCells]
theorem qDt {P : Program} {w : World} {ops : Array Oper} {rest : List Oper} {o : Oper} {a : Act} {Q : Exit -> Act -> World -> Prop} (hgd : o.guard = none) (s x : Operand) (t : TypeId)
 (ho : o.op = .call { callee := .builtin .append, args := #[s, x], argTypes := #[t, t] })
 (base : Nat) (e : TypeId) (i : TypeInfo) (z : Value) (bytes : Nat) (ht : P.underlying t = some (.slice e)) (hi : P.info? e = some i) (hz : i.zero = some z)
 (hsize : i.size = 1) (hby : i.bytes = bytes) (hzs : z.cells.size = 1)
 (v : Value) (n : Nat) (xs : List Value) (hs : a.eval s = v) (hown : w.ownsRow base e 1 v n xs)
 (k : IntKind) (ra : Option Addr) (rl rc : Nat) (L : List Nat) (hx : a.eval x = .slice ra rl rc) (hrow : qAd k w (.slice ra rl rc) L)
 (h63 : n + L.length <= maxLen) (hbytes : (n + L.length) * bytes <= 140737488355328) (hbase : base <= w.heap.size)
 (h : ∀ v' w', w'.ownsRow base e 1 v' (n + L.length) (xs ++ L.map (iv k)) -> w.grownBy w' v.ownBlock -> wpList P ops Q rest (a.put o.dst v') w') : wpList P ops Q (o :: rest) a w := by
 have hl : rl = L.length := by
  obtain ⟨_, _, hv, _⟩ := hrow; injection hv
 subst hl; cases ra with
 | none =>
  have h0 : L.length = 0 := by
   rcases Nat.eq_zero_or_pos L.length with h | h
   ·exact h
   ·obtain ⟨_, ha, _⟩ := hrow.cells h
    cases ha
  rw [h0] at hx; refine wpList_plain hgd fun K hK => ?_; have hrun := qCJ (P := P) (w := w) base t o.type e i 1 ht hi v n xs hown rc; unfold Oper.wp; simp [execOp, ho, resolve, invoke, builtin, hs, hx, hrun, Result.andThen]; refine hK _ _ (h v w ?_ (World.grownBy.refl w _)); rw [h0, List.eq_nil_of_length_eq_zero h0]; simpa using hown
 | some ad =>
  refine wpList_append_own w hgd s x t ho base e i z 1 bytes ht hi hz hsize hby hzs (by decide) v n xs hs hown ad L.length rc (L.map (iv k)) hx (by simp) (fun j u hu => ?_) (fun u hu => ?_) h63 hbytes hbase (fun v' w' h1 h2 _ => h v' w' h1 h2)
  ·have h0 : 0 < L.length := by
    rcases Nat.eq_zero_or_pos L.length with h | h
    ·rw [List.eq_nil_of_length_eq_zero h] at hu; simp at hu
    ·exact h
   obtain ⟨ad', ha, hc⟩ := hrow.cells h0; injection ha with ha; subst ha; exact hc j u hu
  ·obtain ⟨y, _, rfl⟩ := List.mem_map.1 hu
   rfl
theorem qIe (va : Value) (m k : Nat) (w : World) (ha : qBG w va m) (hk : k < 10000) (hl : (qAe T4 m).length <= 1048576) :
 Calls Try.prog 95 #[va, .int .i64 (k : Int)] w fun e w' => (∃ a l c, e = .returned (.slice a l c) /\ qBG w' (.slice a l c) (m * k)) /\ Below w.heap.size w w' := by
 obtain ⟨aa, ca, rfl, h1, h2, h3⟩ := ha; have HA : Hid (qBG w (.slice aa (qAe T4 m).length ca) m) := hZ ⟨aa, ca, rfl, h1, h2, h3⟩; obtain ⟨M, hM⟩ := eX ((qAe T4 m).length); rw [hM] at HA h1 hl ⊢; have HM := hZ hM; clear h3 hM
 go_enter Try.func95, Try.ntmps95
 go_wp2_with fail
 refine (qEi (k : Int) w (by omega) (by omega)).mono ?_; rintro e w1 ⟨⟨vr, rfl, hr⟩, hB⟩; have Hr1 := hZ hr; obtain ⟨a1, l1, c1, rfl, -, -, -⟩ := hr.form; have HB1 := hZ hB; clear hr hB; have hk0 : decide ((k : Int) < 0) = false := decide_eq_false (by omega); rw [hk0] at Hr1 ⊢; have HN : Hid (qAL w1 (.agg #[.bool false, .slice aa M ca]) (m : Int)) := hZ ⟨_, by rw [decide_eq_false (by omega)], qAd.below HA.o (Nat.le_refl _) HB1.o⟩
 go_wp2_with fail
 refine (qHx _ _ (m : Int) (k : Int) w1 HN.o Hr1.o (by rw [Int.natAbs_natCast, HM.o]; exact hl) (Nat.le_trans (qC7 _ (by omega)) (by omega))).mono ?_; rintro e w2 ⟨⟨vr, rfl, hr⟩, hB⟩; have Hr2 := hZ hr; obtain ⟨a2, l2, c2, rfl, -, -, -⟩ := hr.form; have HB2 := hZ hB; clear hr hB; have hk1 : decide ((m : Int) * (k : Int) < 0) = false := decide_eq_false (by have : (0 : Int) <= (m : Int) * (k : Int) := Int.mul_nonneg (by omega) (by omega); omega); rw [hk1] at Hr2 ⊢; have HB3 := hZ ((HB1.o.trans (HB2.o.mono HB1.o.size)).alloc (Nat.le_trans HB1.o.size HB2.o.size) (.cells #[.bool false, .slice a2 l2 c2] 61))
 go_wp2
 refine bodyPost_ret (v := .slice a2 l2 c2) (by simp [results, Try.results95, go_sem]) rfl ⟨⟨_, _, _, rfl, ?_⟩, HB3.o⟩; obtain ⟨vd, hv, hm⟩ := Hr2.o; injection hv with hv; have hv2 : vd = .slice a2 l2 c2 := (by simpa using hv.symm : 0 <= (m : Int) * (k : Int) /\ vd = .slice a2 l2 c2).2; rw [hv2, Int.natAbs_mul, Int.natAbs_natCast, Int.natAbs_natCast] at hm; exact qAd.below hm (Nat.le_refl _) ((Below.refl _ w2).alloc (Nat.le_refl _) _)
theorem qK0 (m k : Nat) (hk : k < 10000) : (qAe T4 (m * k)).length <= (qAe T4 m).length + 1 := by
 have h := qBk T4 (by decide) _ (qAl T4 qAn m); rw [qAi T4 qAn] at h; refine qAO T4 qAn _ _ ?_; rw [Nat.pow_succ]; exact Nat.mul_lt_mul'' h hk
theorem qLV (m d : Nat) (h : m < d * T4) : (qAe T4 m).length <= (qAe T4 d).length + 1 := by
 have h1 := qBk T4 (by decide) _ (qAl T4 qAn d); rw [qAi T4 qAn] at h1; refine qAO T4 qAn _ _ ?_; rw [Nat.pow_succ]; exact Nat.lt_trans h (Nat.mul_lt_mul_of_pos_right h1 (by decide))
structure qEK (d m : Nat) (A : List Nat) (k R : Nat) (Q : List Nat) : Prop where
 len : Q.length = A.length
 low : Low T4 Q
 zero : ∀ j (h : j < Q.length), j < k -> Q[j] = 0
 rl : R < d
 eq : d * val T4 Q + R * T4 ^ k + val T4 (A.take k) = m
theorem qEK.start (d : Nat) (A : List Nat) (hd : d ≠ 0) : qEK d (val T4 A) A A.length 0 (List.replicate A.length 0) :=
 ⟨by simp, fun x hx => by rw [(List.mem_replicate.1 hx).2]; decide, fun j h _ => by simp, by omega, by rw [qBo T4 _ (fun x hx => (List.mem_replicate.1 hx).2), List.take_length]; simp⟩
theorem qEK.next {d m : Nat} {A : List Nat} {k R : Nat} {Q : List Nat} (h : qEK d m A (k + 1) R Q) (hk : k < A.length) (hq : k < Q.length) (hA : Low T4 A) :
 A[k] + T4 * R < d * T4 /\ qEK d m A k ((A[k] + T4 * R) % d) (Q.set k ((A[k] + T4 * R) / d)) := by
 have ha : A[k] < T4 := hA _ (List.getElem_mem hk); have hrl := h.rl; have h1 : A[k] + T4 * R < d * T4 := by
  have h2 : T4 * (R + 1) <= T4 * d := Nat.mul_le_mul_left _ hrl; rw [Nat.mul_add, Nat.mul_one] at h2; rw [Nat.mul_comm d]; omega
 have hd : 0 < d := by omega
 refine ⟨h1, by rw [List.length_set]; exact h.len, qAP h.low _ _ (Nat.div_lt_of_lt_mul h1), fun j hj hjk => ?_, Nat.mod_lt _ hd, ?_⟩
 ·rw [List.getElem_set_ne (by omega)]
  exact h.zero j (by rw [List.length_set] at hj; exact hj) (by omega)
 ·have e1 := qBh T4 Q k ((A[k] + T4 * R) / d) hq
  rw [h.zero k hq (by omega), Nat.zero_mul, Nat.add_zero] at e1; have e2 := h.eq; rw [qAf T4 A k hk, Nat.pow_succ] at e2; have e3 := Nat.div_add_mod (A[k] + T4 * R) d; rw [e1]; generalize (A[k] + T4 * R) / d = q at *; generalize (A[k] + T4 * R) % d = r at *; generalize T4 ^ k = X at *; generalize val T4 Q = v at *; generalize val T4 (A.take k) = u at *; generalize A[k] = a at *; generalize T4 = B at *; clear h h1 ha e1
  grind
theorem qEK.done {d m : Nat} {A : List Nat} {R : Nat} {Q : List Nat} (h : qEK d m A 0 R Q) : val T4 Q = m / d /\ R = m % d := by
 have h1 := h.eq; have h2 := h.rl; simp only [Nat.pow_zero, Nat.mul_one, List.take_zero, val, Nat.add_zero] at h1; have hp : 0 < d := by omega
 have hq : m / d = val T4 Q /\ m % d = R := (Nat.div_mod_unique hp).2 ⟨by omega, h2⟩; exact ⟨hq.1.symm, hq.2.symm⟩
theorem qFZ (va vb : Value) (m d : Nat) (w : World) (ha : qBG w va m) (hb : qBG w vb d) (hd : d ≠ 0) (hl : (qAe T4 m).length <= 500000) (hl2 : (qAe T4 d).length <= 500000) :
 Calls Try.prog 68 #[va, vb] w fun e w' => (∃ vq vr L, e = .returned (.tuple #[vq, vr]) /\ qAd .i64 w' vq L /\ Low T4 L /\ L.length = (qAe T4 m).length /\ val T4 L = m / d /\ qBG w' vr (m % d)) /\ Below w.heap.size w w' := by
 obtain ⟨i0, hi, hz0, hz1, hz2⟩ := info_parts qDF; have Hi := hZ hi; have Hz0 := hZ hz0; have Hz1 := hZ hz1; have Hz2 := hZ hz2; clear hi hz0 hz1 hz2; obtain ⟨aa, ca, rfl, h1, h2, h3⟩ := ha; have HA : Hid (qBG w (.slice aa (qAe T4 m).length ca) m) := hZ ⟨aa, ca, rfl, h1, h2, h3⟩; obtain ⟨ab, cb, rfl, h4, h5, h6⟩ := hb; have HB : Hid (qBG w (.slice ab (qAe T4 d).length cb) d) := hZ ⟨ab, cb, rfl, h4, h5, h6⟩; clear h3 h6; obtain ⟨M, hM⟩ := eX ((qAe T4 m).length); obtain ⟨N, hN⟩ := eX ((qAe T4 d).length); rw [hM] at HA h1 hl ⊢; rw [hN] at HB h4 hl2 ⊢; have HM := hZ hM; have HN := hZ hN; clear hM hN
 go_enter Try.func68, Try.ntmps68
 go_wp2_with (at_make; refine qAy _ rfl _ _ 22 rfl 3 i0 .i64 Try.underlying22 Hi.o Hz0.o Hz1.o _ _ _ _ M rfl rfl rfl rfl (by rw [Hz2.o]; omega) (by omega) ?_)
 intro w1 hblk1 hB1 hz1; obtain ⟨g, hg⟩ := eX w.heap.size; have Hg := hZ hg; rw [hg] at hblk1 hB1 hz1 ⊢; have Hblk1 := hZ hblk1; have HB1 := hZ hB1; clear hg hblk1 hB1; have HI0 : Hid (qEK d m (qAe T4 m) M 0 (List.replicate M 0)) := hZ (by have := qEK.start d (qAe T4 m) hd; rw [qAi T4 qAn, HM.o] at this; exact this)
 go_wp2_with fail
 go_loopg [7, 8] M (fun k rv iv' wr => ∃ (R : Nat) (ra : Option Addr) (rl rc : Nat) (Q : List Nat), k <= M /\ rv = .slice ra rl rc /\ iv' = .int .i64 ((k : Int) - 1) /\ Hid (qEK d m (qAe T4 m) k R Q) /\ Hid (qBG wr (.slice ra rl rc) R) /\ Hid (Blk wr g 3 .i64 Q) /\ Hid (Below g w wr))
 case atStart => exact ⟨0, none, 0, 0, _, Nat.le_refl _, rfl, rfl, HI0, hZ (qAd.nil _ _ (by omega)), Hblk1, HB1⟩
 case round =>
  obtain ⟨R, ra, rl, rc, Q, hk, rfl, rfl, hI, hR, hbQ, hB⟩ := hrel; clear HI0 Hblk1 HB1; cases gk with
  | zero =>
   have e1 : ((0 : Nat) : Int) - 1 = -1 := by omega
   rw [e1]; have hdn := hI.o.done; have hQl : Q.length = M := by rw [hI.o.len]; exact HM.o
   have Hrow := hZ (qAd.of_blk hbQ.o (cap := M) (by omega) (by omega)); rw [hQl] at Hrow; have Hres := hZ (And.intro hI.o.low (And.intro hQl hdn.1)); have HR2 := hZ hdn.2; clear hdn hQl
   go_wp2
   refine bodyPost_ret (v := .tuple #[.slice (some ⟨g, 0, none⟩) M M, .slice ra rl rc]) (by simp [results, Try.results68, go_sem]) rfl ⟨⟨_, _, Q, rfl, Hrow.o, Hres.o.1, Hres.o.2.1, Hres.o.2.2, ?_⟩, ?_⟩
   ·rw [<- HR2.o]; exact hR.o
   ·rw [Hg.o]; exact hB.o
  | succ k =>
   have e1 : ((k + 1 : Nat) : Int) - 1 = (k : Int) := by omega
   rw [e1]; have hkA : k < (qAe T4 m).length := by rw [HM.o]; omega
   have hkQ : k < Q.length := by rw [hI.o.len]; exact hkA
   obtain ⟨b, off, rfl, hbl, hcc⟩ := qAd.whole HA.o (by omega); have ca := (hB.o.cell (p := ⟨b, off + k, none⟩) (by rw [<- Hg.o]; exact hbl)).trans (hcc k hkA); have hak : (qAe T4 m)[k] < 10000 := qAl T4 qAn m _ (List.getElem_mem hkA); have hnx := hI.o.next hkA hkQ (qAl T4 qAn m); have Hlt := hZ hnx.1; have HI2 := hZ hnx.2; generalize (qAe T4 m)[k] = ak at *; obtain ⟨_, _, hv, hrl, hrc, -⟩ := id hR.o; injection hv with e2 e3 e4; subst e2 e3 e4; have HRl := hZ (show (qAe T4 R).length <= N by rw [<- HN.o]; exact qAM T4 qAn _ _ (Nat.le_of_lt hI.o.rl)); have hs1 := hB.o.size; rw [Hg.o] at hs1; have Hown1 : Hid ((wr.alloc (.cells #[.int .i64 (ak : Int)] 3)).ownsRow wr.heap.size 3 1 (.slice (some ⟨wr.heap.size, 0, none⟩) 1 1) 1 [iv .i64 ak]) := hZ (World.ownsRow_lit wr #[.int .i64 (ak : Int)] 1 (Nat.le_refl _) (by unfold maxLen; omega) rfl); have HR1 := hZ (qAd.below hR.o (Nat.le_refl _) ((Below.refl _ wr).alloc (Nat.le_refl _) (.cells #[.int .i64 (ak : Int)] 3))); have HRl2 : Hid (∀ L, L = qAe T4 R -> L.length <= N) := hZ (fun L e => by rw [e]; exact HRl.o); clear hcc hnx hkA; generalize (qAe T4 R).length = rl at *
   go_wp2_with (at_builtin; go_loud (refine qDt rfl _ _ 22 rfl wr.heap.size 3 i0 _ 8 Try.underlying22 Hi.o Hz0.o Hz1.o Hz2.o rfl _ 1 _ rfl Hown1.o .i64 ra rl rc (qAe T4 R) rfl HR1.o (by have := HRl2.o _ rfl; unfold maxLen; omega) (by have := HRl2.o _ rfl; omega) (by simp) ?_))
   intro v2 w2 hown2 hgrow2; obtain ⟨g2, c2, hv2, _⟩ := hown2.form (by omega); subst hv2; have HB2 := hZ (((Below.refl wr.heap.size wr).alloc (Nat.le_refl _) (.cells #[.int .i64 (ak : Int)] 3)).grown hgrow2 (by simp) (fun j e => by
    have e' : wr.heap.size = j := by simpa [Value.ownBlock] using e
    omega))
   have Hrow2 := hZ (qAd.of_owns (k := .i64) (L := ak :: qAe T4 R) (by simpa [iv] using hown2) (by simp; omega)); clear hown2 hgrow2 Hown1 HR1; have Hnorm := hZ (qAJ false _ (ak :: qAe T4 R) w2 Hrow2.o (fun y hy => by
    rcases List.mem_cons.1 hy with rfl | hy
    ·exact hak
    ·exact qAl T4 qAn R y hy) (by have := HRl2.o _ rfl; simp; omega))
   have hvl : val T4 (ak :: qAe T4 R) = ak + T4 * R := by show ak + T4 * val T4 (qAe T4 R) = _; rw [qAi T4 qAn]
   rw [hvl] at Hnorm; clear hvl Hrow2; obtain ⟨V, hV⟩ := eX (ak + T4 * R); rw [hV] at Hnorm Hlt HI2; clear hV; have hs2 := HB2.o.size
   go_wp2_with fail
   refine (Hnorm.o).mono ?_; rintro e w3 ⟨⟨vr, rfl, hr⟩, hB⟩; have Hr3 := hZ hr; obtain ⟨a3, l3, c3, rfl, -, -, -⟩ := hr.form; have HB3 := hZ hB; clear hr hB; have hV0 : decide (sgn false V < 0) = false := decide_eq_false (by show ¬ ((V : Int) < 0); omega); rw [hV0] at Hr3 ⊢; have HV3 : Hid (qBG w3 (.slice a3 l3 c3) V) := hZ (by
    obtain ⟨vd, hv, hm⟩ := Hr3.o; injection hv with hv; have hv2 : vd = .slice a3 l3 c3 := by
     have := congrArg (fun a => a[1]?) hv; simpa using this.symm
    rw [hv2, qAG] at hm; exact hm)
   obtain ⟨w4, hw4⟩ := eX (w3.alloc (.cells #[.bool false, .slice a3 l3 c3] 61)); have HB34 : Hid (Below w3.heap.size w3 w4) := hZ (by rw [<- hw4]; exact (Below.refl _ w3).alloc (Nat.le_refl _) _); have HV4 := hZ (qAd.below HV3.o (Nat.le_refl _) HB34.o); have HB4 := hZ ((HB2.o.trans (HB3.o.mono hs2)).trans (HB34.o.mono (Nat.le_trans hs2 HB3.o.size))); have HbQ4 : Hid (Blk w4 g 3 .i64 Q) := hZ (hbQ.o.below HB4.o hbQ.o.lt); have HBg4 := hZ (hB.o.trans (HB4.o.mono hs1)); have ct : w4.cell? ⟨w3.heap.size, 1, none⟩ = some (.slice a3 l3 c3) := by rw [<- hw4]; exact (Two.new w3 _ _ _).cell1
   clear hV0 Hr3 HV3 HB34 HB3 HB2 Hnorm
   go_wp2_with fail
   clear hw4 ct; have hdp : 0 < d := by omega
   have hql : V / d < 10000 := Nat.div_lt_of_lt_mul Hlt.o; have Hql := hZ hql; have Hd0 := hZ hdp; have Hsm := hZ (fun (w' : World) q (hq : q < 10000) (hb : Below g w w') => qIe (.slice ab N cb) d q w' (qAd.below HB.o (Nat.le_of_eq Hg.o) hb) hq (by rw [HN.o]; omega)); have HVl := hZ (qLV V d Hlt.o); have hs4 := HBg4.o.size; rw [Hg.o] at hs4; clear hql
   go_loopg [10, 11] 9999 (fun j lv hv wy => ∃ (lo hi : Nat), lv = .int .i64 (lo : Int) /\ hv = .int .i64 (hi : Int) /\ lo + j = hi /\ hi <= 9999 /\ Hid (lo <= V / d /\ V / d <= hi) /\ Hid (Below w4.heap.size w4 wy))
   case atStart => exact ⟨0, 9999, rfl, rfl, by omega, by omega, hZ ⟨Nat.zero_le _, by have := Hql.o; exact Nat.le_of_lt_succ this⟩, hZ (Below.refl _ _)⟩
   case round =>
    obtain ⟨lo, hi, rfl, rfl, hlh, hhi, hin, hBy⟩ := hrel; obtain ⟨wy, hwy⟩ : ∃ wy, wy = wr := ⟨_, rfl⟩; subst hwy; have HBgy := hZ (HBg4.o.trans (hBy.o.mono hs4)); have HVy := hZ (qAd.below HV4.o (Nat.le_refl _) hBy.o); cases gk with
    | zero =>
     have hlt : ¬ ((lo : Int) < (hi : Int)) := by omega
     have hqe : lo = V / d := by have h9 := hin.o; obtain ⟨ha, hb⟩ := h9; exact Nat.le_antisymm ha (Nat.le_trans hb (by omega))
     have hdl : d * lo <= V := by rw [hqe]; exact Nat.mul_div_le V d
     have hre : V - d * lo = V % d := by rw [hqe]; have := Nat.div_add_mod V d; omega
     have Hdl := hZ hdl; have Hre := hZ hre; rw [<- hqe] at HI2; clear hqe hdl hre
     go_wp2_with fail
     refine (Hsm.o wy lo (by omega) HBgy.o).mono ?_; rintro e w5 ⟨⟨a5, l5, c5, rfl, hm5⟩, hB5⟩; have Hm5 := hZ hm5; have HB5 := hZ hB5; have HV5 := hZ (qAd.below HVy.o (Nat.le_refl _) hB5); clear hm5 hB5
     go_wp2_with fail
     refine (qES _ _ V (d * lo) w5 HV5.o Hm5.o Hdl.o (by have := HVl.o; rw [HN.o] at this; omega)).mono ?_; rintro e w6 ⟨⟨v6, L6, rfl, hr6, lo6, hv6, hl6, hf6⟩, hB6⟩; rw [Hre.o] at hv6; have HB6 := hZ (HB5.o.trans (hB6.mono HB5.o.size)); have Hnorm := hZ (qF3 false v6 L6 w6 hr6 lo6 (by have := HVl.o; rw [HN.o] at this; omega)); have Hv6 := hZ hv6; clear hv6; obtain ⟨a6, c6, hv6, -⟩ := id hr6; subst hv6; have Hf6 := hZ (fun (ad : Addr) (e : a6 = some ad) => hf6 ad L6.length c6 (by rw [e])); clear hr6 lo6 hB6 hl6 hf6; obtain ⟨l6, hl6⟩ := eX L6.length; rw [hl6] at Hnorm ⊢; clear hl6; obtain ⟨R2, hR2⟩ := eX (V % d); rw [hR2] at Hv6 HI2
     go_wp2_with fail
     refine (Hnorm.o).mono ?_; rintro e w7 ⟨⟨a7, c7, b7, l7, hv7, rfl, hr7⟩, hB7⟩; injection hv7 with e7 _ e8; subst e7 e8; rw [Hv6.o] at hr7; have Hr7 := hZ hr7; have HB7 := hZ hB7; obtain ⟨vd7, hvd7, -⟩ := hr7; injection hvd7 with hvd7; have hb7 : b7 = false := by
      have := congrArg (fun a => a[0]?) hvd7; have h9 : decide (sgn false R2 < 0) = false := decide_eq_false (by show ¬ ((R2 : Int) < 0); omega); simpa [h9] using this
     subst hb7; clear hvd7 hB7; have HV7 : Hid (qBG w7 (.slice a6 l7 c6) R2) := hZ (by
      obtain ⟨vd, hv, hm⟩ := Hr7.o; injection hv with hv; have hv2 : vd = .slice a6 l7 c6 := by
       have := congrArg (fun a => a[1]?) hv; simpa using this.symm
      rw [hv2, qAG] at hm; exact hm)
     obtain ⟨w8, hw8⟩ := eX (w7.alloc (.cells #[.bool false, .slice a6 l7 c6] 61)); have HB78 : Hid (Below w7.heap.size w7 w8) := hZ (by rw [<- hw8]; exact (Below.refl _ w7).alloc (Nat.le_refl _) _); have HV8 := hZ (qAd.below HV7.o (Nat.le_refl _) HB78.o); have HB8 := hZ ((HB6.o.trans (HB7.o.mono HB6.o.size)).trans (HB78.o.mono (Nat.le_trans HB6.o.size HB7.o.size))); have HbQ8 : Hid (Blk w8 g 3 .i64 Q) := hZ ((HbQ4.o.below hBy.o HbQ4.o.lt).below HB8.o (HbQ4.o.below hBy.o HbQ4.o.lt).lt); have HBg8 := hZ (HBgy.o.trans (HB8.o.mono (by have := HBgy.o.size; rw [Hg.o] at this; exact this))); have ct : w8.cell? ⟨w7.heap.size, 1, none⟩ = some (.slice a6 l7 c6) := by rw [<- hw8]; exact (Two.new w7 _ _ _).cell1
     have hg7 : g < w7.heap.size := by
      have h1 := (HbQ4.o.below hBy.o HbQ4.o.lt).lt; have h2 := HB6.o.size; have h3 := HB7.o.size; omega
     have cq := HbQ8.o.cell k hkQ; have fq := HbQ8.o.frozen k; have ct2 : (w8.setCell ⟨g, k, none⟩ (.int .i64 (lo : Int))).cell? ⟨w7.heap.size, 1, none⟩ = some (.slice a6 l7 c6) := by
      rw [<- ct]; exact World.cell?_of_block (Below.heap_setCell w8 ⟨g, k, none⟩ _ w7.heap.size (by show w7.heap.size ≠ g; omega))
     clear Hr7 HV7 HB78 HB7 Hnorm ct
     go_wp2_with fail
     go_roundg k
     case measure => omega
     case rel =>
      refine ⟨R2, a6, l7, c6, Q.set k lo, by omega, rfl, by first | rfl | go_num, HI2, hZ ?_, hZ (HbQ8.o.set k lo), hZ (HBg8.o.setCell (p := ⟨g, k, none⟩) (Nat.le_refl _) _)⟩; have hO : qAc (fun j => j = g) w8 (w8.setCell ⟨g, k, none⟩ (.int .i64 (lo : Int))) := (qAc.refl (fun j => j = g) w8).set (p := ⟨g, k, none⟩) rfl _; refine hO.row HV8.o (fun b' off' cap' e => ?_); injection e with e1; have h1 := Hf6.o _ e1; have h2 := HB5.o.size; have h3 := (HbQ4.o.below hBy.o HbQ4.o.lt).lt
      show ¬ b' = g
      have h4 : w5.heap.size <= b' := h1; omega
    | succ j =>
     obtain ⟨mid, hmid⟩ := eX ((lo + hi + 1) / 2); have hm1 : lo < mid := by omega
     have hm2 : mid <= hi := by omega
     have hmI : ((lo : Int) + (hi : Int) + 1) / 2 = (mid : Int) := by omega
     have hlt : (lo : Int) < (hi : Int) := by omega
     clear hmid
     go_wp2_with fail
     refine (Hsm.o wy mid (by omega) HBgy.o).mono ?_; rintro e w5 ⟨⟨a5, l5, c5, rfl, hm5⟩, hB5⟩; have Hm5 := hZ hm5; have HB5 := hZ hB5; have HV5 := hZ (qAd.below HVy.o (Nat.le_refl _) hB5); clear hm5 hB5
     go_wp2_with fail
     refine (qB8 _ _ (d * mid) V w5 Hm5.o HV5.o (by have := qK0 d mid (by omega); rw [HN.o] at this; omega) (by have := HVl.o; rw [HN.o] at this; omega)).mono ?_; rintro e w6 ⟨rfl, k6, rfl⟩; have HB6 := hZ (show Below w4.heap.size w4 (w5.drewN k6) from ⟨(hBy.o.trans (HB5.o.mono hBy.o.size)).os, (hBy.o.trans (HB5.o.mono hBy.o.size)).tape, (hBy.o.trans (HB5.o.mono hBy.o.size)).output, (hBy.o.trans (HB5.o.mono hBy.o.size)).size, (hBy.o.trans (HB5.o.mono hBy.o.size)).block⟩); by_cases hc : d * mid <= V
     ·have hc3 : qAK ((d * mid : Nat) : Int) (V : Int) <= 0 := by
       unfold qAK
       split
       ·omega
       ·rw [if_neg (by omega)]; omega
      have Hin : Hid (mid <= V / d /\ V / d <= hi) := hZ ⟨(Nat.le_div_iff_mul_le Hd0.o).2 (by rw [Nat.mul_comm]; exact hc), hin.o.2⟩; generalize qAK ((d * mid : Nat) : Int) (V : Int) = C at *; clear hc
      go_wp2_with fail
      go_roundg (hi - mid)
      case measure => omega
      case rel => exact ⟨mid, hi, rfl, rfl, by omega, hhi, Hin, HB6⟩
     ·have hc3 : ¬ (qAK ((d * mid : Nat) : Int) (V : Int) <= 0) := by
       unfold qAK; rw [if_neg (by omega), if_pos (by omega)]; omega
      have Hin : Hid (lo <= V / d /\ V / d <= mid - 1) := hZ ⟨hin.o.1, Nat.le_sub_one_of_lt ((Nat.div_lt_iff_lt_mul Hd0.o).2 (by rw [Nat.mul_comm]; omega))⟩; generalize qAK ((d * mid : Nat) : Int) (V : Int) = C at *; have hmm : (mid : Int) - 1 = ((mid - 1 : Nat) : Int) := by omega
      clear hc
      go_wp2_with fail
      go_roundg (mid - 1 - lo)
      case measure => omega
      case rel => exact ⟨lo, mid - 1, rfl, by first | rfl | go_num, by omega, by omega, Hin, HB6⟩
open Go.RowKit
theorem Two.far2 {w : World} {b g : Nat} {t : TypeId} {x y : Value} (h : Two w b t x y) (hne : b ≠ g) (u u' : Value) : Two ((w.setCell ⟨g, 0, none⟩ u).setCell ⟨g, 1, none⟩ u') b t x y :=
 (Below.heap_setCell _ ⟨g, 1, none⟩ u' b hne).trans ((Below.heap_setCell w ⟨g, 0, none⟩ u b hne).trans h)
theorem Two.put2 {w : World} {b : Nat} {t : TypeId} {x y : Value} (h : Two w b t x y) (u u' : Value) : Two ((w.setCell ⟨b, 0, none⟩ u).setCell ⟨b, 1, none⟩ u') b t u u' := by
 unfold Two at h ⊢; simp [World.setCell, Array.getElem?_modify, h]
def qGC (w : World) (b : Nat) (z : Int) : Prop := ∃ a l c, Two w b 61 (.bool (decide (z < 0))) (.slice a l c) /\ qAL w (.agg #[.bool (decide (z < 0)), .slice a l c]) z
theorem qGC.below {w w' : World} {b : Nat} {z : Int} (h : qGC w b z) (hb : Below w.heap.size w w') : qGC w' b z := by
 obtain ⟨a, l, c, h1, h2⟩ := h; exact ⟨a, l, c, h1.below hb h1.lt, h2.below (Nat.le_refl _) hb⟩
theorem qGC.lt {w : World} {b : Nat} {z : Int} (h : qGC w b z) : b < w.heap.size := by
 obtain ⟨a, l, c, h1, h2⟩ := h; exact h1.lt
theorem qGC.far {w : World} {b g : Nat} {z y : Int} (h : qGC w b z) (hg : qGC w g y) (hne : b ≠ g) (u u' : Value) : qGC ((w.setCell ⟨g, 0, none⟩ u).setCell ⟨g, 1, none⟩ u') b z := by
 obtain ⟨a, l, c, h1, h2⟩ := h; obtain ⟨a', l', c', h1', h2'⟩ := hg; exact ⟨a, l, c, h1.far2 hne u u', h2.set_two h1' u u'⟩
theorem qGC.put {w : World} {b : Nat} {z y : Int} {a : Option Addr} {l c : Nat} (h : qGC w b y) (hr : qAL w (.agg #[.bool (decide (z < 0)), .slice a l c]) z) : qGC ((w.setCell ⟨b, 0, none⟩ (.bool (decide (z < 0)))).setCell ⟨b, 1, none⟩ (.slice a l c)) b z := by
 obtain ⟨a', l', c', h1, h2⟩ := h; exact ⟨a, l, c, h1.put2 _ _, hr.set_two h1 _ _⟩
theorem qGC.new {w : World} {z : Int} {a : Option Addr} {l c : Nat} (hr : qAL w (.agg #[.bool (decide (z < 0)), .slice a l c]) z) : qGC (w.alloc (.cells #[.bool (decide (z < 0)), .slice a l c] 61)) w.heap.size z :=
 ⟨a, l, c, Two.new w _ _ _, hr.below (Nat.le_refl _) ((Below.refl _ w).alloc (Nat.le_refl _) _)⟩
theorem qGC.alloc {w : World} {b : Nat} {z : Int} (h : qGC w b z) (o : Obj) : qGC (w.alloc o) b z := h.below ((Below.refl _ w).alloc (Nat.le_refl _) _)
end Go.Proofs.Ytlmbebbdamgfpaa
