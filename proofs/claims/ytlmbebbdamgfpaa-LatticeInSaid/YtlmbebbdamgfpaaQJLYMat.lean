/- Matrices of ints of one's own. -/
import Derived.Test.YtlmbebbdamgfpaaQJWSubtr
import Derived.Test.YtlmbebbdamgfpaaQJLHnf
import Derived.Test.YtlmbebbdamgfpaaQJLawLMany
import Derived.Deep.CutRange
import Derived.Test.YtlmbebbdamgfpaaQJLMat
import Derived.Laws.AppendOwnNone
import Derived.Test.YtlmbebbdamgfpaaQJLElP
import Derived.Test.YtlmbebbdamgfpaaQJLSz
set_option linter.unusedVariables false
set_option linter.unusedSimpArgs false
set_option maxHeartbeats 8000000
set_option maxRecDepth 100000
namespace Go.Proofs.Ytlmbebbdamgfpaa
open Go.RowKit
theorem qJn (x m : Int) (w : World) (h1 : -9223372036854775808 <= x) (h2 : x <= 9223372036854775807) (hm : 0 <= m) (hm2 : m <= 2305843009213693952) :
 Calls Try.prog 24 #[.int .i64 x, .int .i64 m] w fun e w' => (∃ z, e = .returned (.int .i64 z) /\ -m <= z /\ z <= m) /\ w' = w := by
 have HA := hZ (qCe x (2 * m + 1) w h1 h2 (by omega) (by omega)); have HR := qBf x (2 * m + 1) (by omega); obtain ⟨a, ha⟩ := eX (qBk x (2 * m + 1)); rw [ha] at HA HR; clear ha
 go_enter Try.func24, Try.ntmps24
 go_wp2_with fail
 refine HA.o.mono ?_; rintro e w9 ⟨rfl, rfl⟩
 go_wp2_with fail
 go_ret; exact ⟨⟨a - m, rfl, by omega, by omega⟩, rfl⟩
structure qLI (m : List (List Int)) (L : Int) : Prop where
 rows : m.length <= 5
 cols : ∃ c, c <= 5 /\ ∀ r ∈ m, r.length = c
 ent : ∀ r ∈ m, ∀ x ∈ r, -(3 * L) <= x /\ x <= 3 * L
theorem qHl {w : World} {base n cp k : Nat} {ga : Option Addr} {xs : List Value} (h : w.ownsRow base 22 1 (.slice ga n cp) n xs) (hn : k < n) : ∃ g, ga = some ⟨g, 0, none⟩ /\ g < w.heap.size /\ w.cell? ⟨g, k, none⟩ = xs[k]? := by
 rcases h.2 with ⟨hv, _⟩ | ⟨g, cap, cur, hv, _, hg, _⟩
 ·injection hv with _ e _; omega
 ·injection hv with e1 _ _
  subst e1; exact ⟨g, rfl, (Array.getElem?_eq_some_iff.1 hg).1, h.cellAt k (by omega)⟩
theorem qIc (v : Value) (zs : List Int) (len : Nat) (L : Int) (w0 : World) (h : qCB w0 v zs len) (hL : 4 <= L) (hL2 : L <= 1099511627776) :
 Calls Try.prog 11 #[v, .int .i64 L] w0 fun e w' => ∃ m u, e = .returned u /\ qAD w' u m /\ qLI m L /\ Below w0.heap.size w0 w' := by
 have H := hZ h; have HB := hZ (Below.refl w0.heap.size w0); have HP1 := hZ (qC3 v zs len 0 6 w0 h (by omega) (by omega) (by omega)); have HP2 := hZ (qC3 v zs len 1 6 w0 h (by omega) (by omega) (by omega)); have R1 := qBN zs len 0 6 (by omega); have R2 := qBN zs len 1 6 (by omega); obtain ⟨r, hr⟩ := Int.eq_ofNat_of_zero_le R1.1; obtain ⟨c, hc⟩ := Int.eq_ofNat_of_zero_le R2.1; rw [hr] at HP1 R1; rw [hc] at HP2 R2; have hr5 : r <= 5 := by omega
 have hc5 : c <= 5 := by omega
 clear h R1 R2 hr hc
 go_enter Try.func11, Try.ntmps11
 go_wp2_with fail
 refine HP1.o.mono ?_; rintro e w9 ⟨rfl, hw9⟩; replace hw9 := hw9.symm; subst hw9; clear HP1
 go_wp2_with fail
 refine HP2.o.mono ?_; rintro e w9 ⟨rfl, hw9⟩; replace hw9 := hw9.symm; subst hw9; clear HP2
 go_wp2_with fail
 have HO : Hid (w0.ownsRow w0.heap.size 22 1 (.slice none 0 0) ([] : List (Nat × Nat)).length (([] : List (Nat × Nat)).map rwI)) := hZ (World.ownsRow_nil _ _ _ _)
 go_loopw [8, 7] (fun i vm wr => ∃ (j cp : Nat) (ga : Option Addr) (l : List (Nat × Nat)) (M : List (List Int)), j <= r /\ i = .int .i64 j /\ vm = .slice ga l.length cp /\ l.length <= cp /\ cp <= 9223372036854775807 /\ Hid (l.length = j) /\ Hid (∀ t (h : t < M.length), M[t].length = c /\ ∀ x ∈ M[t], -(if t < 2 then L else 3 * L) <= x /\ x <= (if t < 2 then L else 3 * L)) /\ Hid (wr.ownsRow w0.heap.size 22 1 (.slice ga l.length cp) l.length (l.map rwI)) /\ Hid (qAI wr l M) /\ Hid (Below w0.heap.size w0 wr)) (fun i _ _ => r - (intOf i).toNat)
 case atStart => exact ⟨0, 0, none, [], [], by omega, rfl, rfl, by simp, by omega, hZ rfl, hZ (fun t h => by simp at h), HO, hZ (qAI.nil _), HB⟩
 case round =>
  clear HO HB; obtain ⟨j, cp, ga, l, M, hj, rfl, rfl, hcp, hcp2, HL, HR, HO, II, HB⟩ := hrel; obtain ⟨w1, rfl⟩ := eY wr; by_cases hlt : j < r
  ·skip
   have j1 : (0 : Int) <= (j : Int) := by omega
   have j3 : (j : Int) < (r : Int) := by omega
   have HSz := hZ HB.o.size; have HIl : Hid (∀ i (h : i < l.length), l[i].1 < w1.heap.size) := hZ II.o.lt
   go_wp2_with (at_make; refine qAQ rfl rfl (c) rfl rfl rfl rfl (by omega) ?_)
   intro w2 h_9 hB hlt9; obtain ⟨g, hb⟩ := eX w1.heap.size; rw [hb] at h_9 ⊢; have Oc' := hZ h_9; have hge_g : Hid (w1.heap.size <= g) := hZ (Nat.le_of_eq hb); have hlt_g : Hid (g < w2.heap.size) := hZ (by rw [<- hb]; exact hlt9); have hB9 := hB; clear h_9 hb hlt9; replace II := II.b hB; replace HB := bT HB hB; clear hB; have Oc := Oc'; clear Oc'; replace HO := hZ (qDo hB9 HO.o); clear hB9; have HGg : Hid (w0.heap.size <= g /\ (∀ i (h : i < l.length), l[i].1 ≠ g)) := hZ ⟨Nat.le_trans HSz.o hge_g.o, fun i hi => by have := HIl.o i hi; have := hge_g.o; omega⟩; clear hge_g hlt_g HSz HIl
   go_wp2_with fail
   obtain ⟨w4, hw4⟩ : ∃ w' : World, w' = w2 := ⟨_, rfl⟩; have HP3 := hZ (qC3 v zs len (2 + j) 60 w2 (H.o.below (Nat.le_refl _) HB.o) (by omega) (by omega) (by omega)); have R3 := qBN zs len (2 + j) 60 (by omega); obtain ⟨how, hhow⟩ := eX (qDn zs len (2 + j) 60); rw [hhow] at HP3 R3; clear hhow hw4; rw [show ((2 + j : Nat) : Int) = 2 + (j : Int) by omega] at HP3; refine HP3.o.mono ?_; rintro e w9 ⟨rfl, hw9⟩; replace hw9 := hw9.symm; subst hw9; clear HP3
   go_wp2_with fail
   obtain ⟨Bd, hBd⟩ := eX ((if j < 2 then L else 3 * L)); have HBd : Hid (L <= Bd /\ (2 <= j -> Bd = 3 * L)) := hZ ⟨by rw [<- hBd]; split <;> omega, fun h => by rw [<- hBd, if_neg (by omega)]⟩; have HBe := hZ hBd; clear hBd; have Oc0 : Hid (qAy w2 g 3 ((List.replicate c (0 : Int)).map zv)) := hZ (by have h9 := Oc.o; simpa using h9); clear Oc
   go_loopw [11] (fun i wr => ∃ (k : Nat) (cs : List Int), k <= c /\ i = .int .i64 k /\ Hid (cs.length = c /\ ∀ x ∈ cs, -Bd <= x /\ x <= Bd) /\ Hid (qAy wr g 3 (cs.map zv)) /\ Hid (wr.ownsRow w0.heap.size 22 1 (.slice ga l.length cp) l.length (l.map rwI)) /\ Hid (qAI wr l M) /\ Hid (Below w0.heap.size w0 wr)) (fun i _ => c - (intOf i).toNat)
   case atStart => exact ⟨0, List.replicate c 0, by omega, rfl, hZ ⟨by simp, fun x hx => by rw [(List.mem_replicate.1 hx).2]; have := HBd.o.1; omega⟩, Oc0, HO, II, HB⟩
   case round =>
    clear Oc0 HO II HB; obtain ⟨k, cs, hk, rfl, HC, Oc, HO, II, HB⟩ := hrel; obtain ⟨w2, rfl⟩ := eY wr; by_cases hkc : k < c
    ·skip
     have k1 : (0 : Int) <= (k : Int) := by omega
     have k2 : (k : Int) < (c : Int) := by omega
     have HP4 := hZ (qC3 v zs len (7 + 5 * j + k) 1000000 w2 (H.o.below (Nat.le_refl _) HB.o) (by omega) (by omega) (by omega)); have R4 := qBN zs len (7 + 5 * j + k) 1000000 (by omega); obtain ⟨n, hn⟩ := eX (qDn zs len (7 + 5 * j + k) 1000000); rw [hn] at HP4 R4; clear hn; rw [show ((7 + 5 * j + k : Nat) : Int) = 7 + 5 * (j : Int) + (k : Int) by omega] at HP4
     go_wp2_with fail
     refine HP4.o.mono ?_; rintro e w9 ⟨rfl, hw9⟩; replace hw9 := hw9.symm; subst hw9; clear HP4; obtain ⟨t9, ht9⟩ := eX (n.tmod 9); have rt9 : 0 <= t9 /\ t9 < 9 := by rw [<- ht9]; exact ⟨Int.tmod_nonneg _ (by omega), Int.tmod_lt_of_pos _ (by omega)⟩
     have ht9' : n % 9 = t9 := by rw [<- ht9, Int.tmod_eq_emod_of_nonneg (by omega)]
     obtain ⟨q3, hq3⟩ := eX ((n.tdiv 9).tmod 3); have hq3' : n / 9 % 3 = q3 := by rw [<- hq3, Int.tdiv_eq_ediv_of_nonneg (by omega), Int.tmod_eq_emod_of_nonneg (by omega)]
     obtain ⟨z1, hz1⟩ := eX (t9 - 4); have hz1w : IntKind.i64.wrap (t9 - 4) = z1 := by rw [IntWalk.i64_in _ (by omega)]; exact hz1
     have rz1 : -4 <= z1 /\ z1 <= 4 := by omega
     have hck : k < cs.length := by rw [HC.o.1]; exact hkc
     obtain ⟨u9, e1⟩ : ∃ u, w2.cell? ⟨g, k, none⟩ = some u := ⟨_, (Oc.o.cell k).trans (List.getElem?_eq_getElem (by rw [List.length_map, HC.o.1]; exact hkc))⟩; have e2 := Oc.o.frozen (k); have Ocx := Oc; obtain ⟨w3, hw⟩ := eX (w2.setCell ⟨g, k, none⟩ (.int .i64 z1)); have ho : qAb (fun b => b = g) w2 w3 := by rw [<- hw]; exact (qAb.refl (fun b => b = g) _).set (p := ⟨g, k, none⟩) rfl _
     have hN : ∀ b, b = g -> qAg w2 b := fun b e => e ▸ Oc.o.noInt qCi; replace Oc := hZ ((by have h1 := Oc.o.set k (.int .i64 z1); rw [hw, show (Value.int .i64 z1) = zv z1 from rfl, <- List.map_set] at h1; exact h1)); replace II := hZ (II.o.only ho hN (fun i hi => HGg.o.2 i hi)); replace HB := hZ (qAn HB.o ho (fun b e => by have := HGg.o; omega) HB.o.size); have ho9 := ho; clear ho hN; replace HO := hZ (ho9.own HO.o (fun b e (h : b = g) => qBo HO.o e Ocx.o h.symm)); clear ho9 Ocx; replace HC : Hid ((cs.set k z1).length = c /\ ∀ x ∈ cs.set k z1, -Bd <= x /\ x <= Bd) := hZ ⟨by rw [List.length_set]; exact HC.o.1, fun x hx => by rcases List.mem_or_eq_of_mem_set hx with h9 | h9; exact HC.o.2 x h9; rw [h9]; have := HBd.o.1; omega⟩; generalize cs.set k z1 = cs at *; have e1a := e1; have e2a := e2; have hwa := hw; clear e1 e2 hw
     go_upto_if 49 with fail
     clear e1a e2a hwa hz1w
     go_cut [] from 28 to 96 (fun  wc => ∃ cs : List Int, Hid (cs.length = c /\ ∀ x ∈ cs, -Bd <= x /\ x <= Bd) /\ Hid (qAy wc g 3 (cs.map zv)) /\ Hid (wc.ownsRow w0.heap.size 22 1 (.slice ga l.length cp) l.length (l.map rwI)) /\ Hid (qAI wc l M) /\ Hid (Below w0.heap.size w0 wc))
     ·skip
      by_cases hq0 : q3 = 0
      ·skip
       have f0 : (q3 == 0) = true := by simp [hq0]
       obtain ⟨u9, e1⟩ : ∃ u, w3.cell? ⟨g, k, none⟩ = some u := ⟨_, (Oc.o.cell k).trans (List.getElem?_eq_getElem (by rw [List.length_map, HC.o.1]; exact hkc))⟩; have e2 := Oc.o.frozen (k); have Ocx := Oc; obtain ⟨w4, hw⟩ := eX (w3.setCell ⟨g, k, none⟩ (.int .i64 (0))); have ho : qAb (fun b => b = g) w3 w4 := by rw [<- hw]; exact (qAb.refl (fun b => b = g) _).set (p := ⟨g, k, none⟩) rfl _
       have hN : ∀ b, b = g -> qAg w3 b := fun b e => e ▸ Oc.o.noInt qCi; replace Oc := hZ ((by have h1 := Oc.o.set k (.int .i64 (0)); rw [hw, show (Value.int .i64 (0)) = zv (0) from rfl, <- List.map_set] at h1; exact h1)); replace II := hZ (II.o.only ho hN (fun i hi => HGg.o.2 i hi)); replace HB := hZ (qAn HB.o ho (fun b e => by have := HGg.o; omega) HB.o.size); have ho9 := ho; clear ho hN; replace HO := hZ (ho9.own HO.o (fun b e (h : b = g) => qBo HO.o e Ocx.o h.symm)); clear ho9 Ocx; replace HC : Hid ((cs.set k (0)).length = c /\ ∀ x ∈ cs.set k (0), -Bd <= x /\ x <= Bd) := hZ ⟨by rw [List.length_set]; exact HC.o.1, fun x hx => by rcases List.mem_or_eq_of_mem_set hx with h9 | h9; exact HC.o.2 x h9; rw [h9]; have := HBd.o.1; omega⟩; generalize cs.set k (0) = cs at *
       go_wp2_with fail
       go_meet
       case rel => exact ⟨cs, HC, Oc, HO, II, HB⟩
      ·skip
       have f0 : (q3 == 0) = false := by rw [beq_eq_false_iff_ne]; exact hq0
       go_wp2_with fail
       go_meet
       case rel => exact ⟨cs, HC, Oc, HO, II, HB⟩
     ·skip
      clear HC Oc HO II HB hck; obtain ⟨cs, HC, Oc, HO, II, HB⟩ := hcut; obtain ⟨w4, rfl⟩ := eY wc; have hck : k < cs.length := by rw [HC.o.1]; exact hkc
      obtain ⟨m10, hm10⟩ := eX (how.tmod 10); have hm10' : how % 10 = m10 := by rw [<- hm10, Int.tmod_eq_emod_of_nonneg (by omega)]
      go_upto_if 55 with fail
      go_cut [] from 28 to 96 (fun  wc => ∃ cs : List Int, Hid (cs.length = c /\ ∀ x ∈ cs, -Bd <= x /\ x <= Bd) /\ Hid (qAy wc g 3 (cs.map zv)) /\ Hid (wc.ownsRow w0.heap.size 22 1 (.slice ga l.length cp) l.length (l.map rwI)) /\ Hid (qAI wc l M) /\ Hid (Below w0.heap.size w0 wc))
      ·skip
       by_cases hm0 : m10 = 0
       ·skip
        have g1 : (m10 == 0) = true := by simp [hm0]
        obtain ⟨nn, hnn⟩ := eX (n * n); have rnn : 0 <= nn /\ nn <= 1000000000000 := by rw [<- hnn]; exact ⟨Int.mul_nonneg R4.1 R4.1, by have := Int.mul_le_mul (show n <= 1000000 by omega) (show n <= 1000000 by omega) R4.1 (by omega); omega⟩
        have hnw : IntKind.i64.wrap (n * n) = nn := by rw [hnn, IntWalk.i64_in _ (by omega)]
        go_wp2_with fail
        clear g1 hnw; refine (qJn nn L w4 (by omega) (by omega) (by omega) (by omega)).mono ?_; rintro e w9 ⟨⟨z3, rfl, rz3, rz4⟩, hw9⟩; replace hw9 := hw9.symm; subst hw9; obtain ⟨u9, e1⟩ : ∃ u, w4.cell? ⟨g, k, none⟩ = some u := ⟨_, (Oc.o.cell k).trans (List.getElem?_eq_getElem (by rw [List.length_map, HC.o.1]; exact hkc))⟩; have e2 := Oc.o.frozen (k); have Ocx := Oc; obtain ⟨w5, hw⟩ := eX (w4.setCell ⟨g, k, none⟩ (.int .i64 z3)); have ho : qAb (fun b => b = g) w4 w5 := by rw [<- hw]; exact (qAb.refl (fun b => b = g) _).set (p := ⟨g, k, none⟩) rfl _
        have hN : ∀ b, b = g -> qAg w4 b := fun b e => e ▸ Oc.o.noInt qCi; replace Oc := hZ ((by have h1 := Oc.o.set k (.int .i64 z3); rw [hw, show (Value.int .i64 z3) = zv z3 from rfl, <- List.map_set] at h1; exact h1)); replace II := hZ (II.o.only ho hN (fun i hi => HGg.o.2 i hi)); replace HB := hZ (qAn HB.o ho (fun b e => by have := HGg.o; omega) HB.o.size); have ho9 := ho; clear ho hN; replace HO := hZ (ho9.own HO.o (fun b e (h : b = g) => qBo HO.o e Ocx.o h.symm)); clear ho9 Ocx; replace HC : Hid ((cs.set k z3).length = c /\ ∀ x ∈ cs.set k z3, -Bd <= x /\ x <= Bd) := hZ ⟨by rw [List.length_set]; exact HC.o.1, fun x hx => by rcases List.mem_or_eq_of_mem_set hx with h9 | h9; exact HC.o.2 x h9; rw [h9]; have := HBd.o.1; omega⟩; generalize cs.set k z3 = cs at *
        go_wp2_with fail
        go_meet
        case rel => exact ⟨cs, HC, Oc, HO, II, HB⟩
       ·skip
        have g1 : (m10 == 0) = false := by rw [beq_eq_false_iff_ne]; exact hm0
        go_wp2_with fail
        go_meet
        case rel => exact ⟨cs, HC, Oc, HO, II, HB⟩
      ·skip
       clear HC Oc HO II HB hck; obtain ⟨cs, HC, Oc, HO, II, HB⟩ := hcut; obtain ⟨w5, rfl⟩ := eY wc; have hck : k < cs.length := by rw [HC.o.1]; exact hkc
       obtain ⟨m5, hm5⟩ := eX (how.tmod 5); have hm5' : how % 5 = m5 := by rw [<- hm5, Int.tmod_eq_emod_of_nonneg (by omega)]
       by_cases hm1 : m5 = 1 /\ 1 < j
       ·skip
        obtain ⟨hm1, hj2⟩ := hm1; have g2 : (m5 == 1) = true := by simp [hm1]
        have g3 : (1 : Int) < (j : Int) := by omega
        have hll := HL.o; have hml := II.o.len; obtain ⟨go, rfl, hgo, c0⟩ := qHl HO.o (show 0 < l.length by omega); obtain ⟨go2, hgo2, -, c1⟩ := qHl HO.o (show 1 < l.length by omega); injection hgo2 with hgo2; injection hgo2 with hgo2; subst hgo2; rw [List.getElem?_map, List.getElem?_eq_getElem (show 0 < l.length by omega)] at c0; rw [List.getElem?_map, List.getElem?_eq_getElem (show 1 < l.length by omega)] at c1; simp only [Option.map_some, rwI] at c0 c1; obtain ⟨k0, l0⟩ := II.o.row 0 (by omega); obtain ⟨k1', l1⟩ := II.o.row 1 (by omega); have b0 := HR.o 0 (by omega); have b1 := HR.o 1 (by omega); rw [if_pos (by omega)] at b0 b1; rw [b0.1] at l0; rw [b1.1] at l1; rw [<- l0] at c0; rw [<- l1] at c1; have y0 := (k0.cell k).trans (show _ = some (Value.int .i64 ((M[0]'(by omega))[k]'(by rw [b0.1]; exact hkc))) from by rw [List.getElem?_map, List.getElem?_eq_getElem (show k < (M[0]'(by omega)).length by rw [b0.1]; exact hkc)]; rfl); have y1 := (k1'.cell k).trans (show _ = some (Value.int .i64 ((M[1]'(by omega))[k]'(by rw [b1.1]; exact hkc))) from by rw [List.getElem?_map, List.getElem?_eq_getElem (show k < (M[1]'(by omega)).length by rw [b1.1]; exact hkc)]; rfl); have r0 := b0.2 _ (List.getElem_mem (show k < (M[0]'(by omega)).length by rw [b0.1]; exact hkc)); have r1 := b1.2 _ (List.getElem_mem (show k < (M[1]'(by omega)).length by rw [b1.1]; exact hkc)); generalize (M[0]'(by omega))[k]'(by rw [b0.1]; exact hkc) = xx at *; generalize (M[1]'(by omega))[k]'(by rw [b1.1]; exact hkc) = yy at *; have hgl0 := k0.lt; have hgl1 := k1'.lt; generalize l[0].1 = gr0 at *; generalize l[1].1 = gr1 at *; have HY := hZ (And.intro c0 (And.intro c1 (And.intro y0 y1))); have HG4 := hZ (And.intro hgo (And.intro hgl0 hgl1)); clear k0 k1' l0 l1 b0 b1 c0 c1 y0 y1 hgo hgl0 hgl1; obtain ⟨a3, ha3⟩ := eX ((how.tdiv 10).tmod 3); have ra3 : 0 <= a3 /\ a3 < 3 := by rw [<- ha3]; exact ⟨Int.tmod_nonneg _ (Int.tdiv_nonneg (by omega) (by omega)), Int.tmod_lt_of_pos _ (by omega)⟩
        have ha3' : how / 10 % 3 = a3 := by rw [<- ha3, Int.tdiv_eq_ediv_of_nonneg (by omega), Int.tmod_eq_emod_of_nonneg (by omega)]
        obtain ⟨b2, hb2⟩ := eX ((how.tdiv 10).tmod 2); have rb2 : 0 <= b2 /\ b2 < 2 := by rw [<- hb2]; exact ⟨Int.tmod_nonneg _ (Int.tdiv_nonneg (by omega) (by omega)), Int.tmod_lt_of_pos _ (by omega)⟩
        have hb2' : how / 10 % 2 = b2 := by rw [<- hb2, Int.tdiv_eq_ediv_of_nonneg (by omega), Int.tmod_eq_emod_of_nonneg (by omega)]
        obtain ⟨d10, hd10⟩ := eX (how.tdiv 10); have rd10 : 0 <= d10 /\ d10 <= 60 := by rw [<- hd10, Int.tdiv_eq_ediv_of_nonneg (by omega)]; omega
        have hd10' : how / 10 = d10 := by rw [<- hd10, Int.tdiv_eq_ediv_of_nonneg (by omega)]
        rw [hd10] at ha3 hb2; rw [hd10'] at ha3' hb2'; obtain ⟨s3, hs3⟩ := eX (a3 - 1); have ws3 : IntKind.i64.wrap (a3 - 1) = s3 := by rw [IntWalk.i64_in _ (by omega)]; exact hs3
        have rs3 : -1 <= s3 /\ s3 <= 1 := by omega
        obtain ⟨s2, hs2⟩ := eX (b2 + 1); have ws2 : IntKind.i64.wrap (b2 + 1) = s2 := by rw [IntWalk.i64_in _ (by omega)]; exact hs2
        have rs2 : 1 <= s2 /\ s2 <= 2 := by omega
        obtain ⟨p0, hp0⟩ := eX (xx * s3); have rp0 : -L <= p0 /\ p0 <= L := by rw [<- hp0]; rcases (show s3 = -1 \/ s3 = 0 \/ s3 = 1 by omega) with e | e | e <;> rw [e] <;> omega
        have wp0 : IntKind.i64.wrap (xx * s3) = p0 := by rw [hp0, IntWalk.i64_in _ (by omega)]
        obtain ⟨p1, hp1⟩ := eX (yy * s2); have rp1 : -(2 * L) <= p1 /\ p1 <= 2 * L := by rw [<- hp1]; rcases (show s2 = 1 \/ s2 = 2 by omega) with e | e <;> rw [e] <;> omega
        have wp1 : IntKind.i64.wrap (yy * s2) = p1 := by rw [hp1, IntWalk.i64_in _ (by omega)]
        obtain ⟨z5, hz5⟩ := eX (p0 - p1); have wz5 : IntKind.i64.wrap (p0 - p1) = z5 := by rw [IntWalk.i64_in _ (by omega)]; exact hz5
        have rz5 : -(3 * L) <= z5 /\ z5 <= 3 * L := by omega
        have wd10 : IntKind.i64.wrap d10 = d10 := IntWalk.i64_in _ (by omega); have ws3' : IntKind.i64.wrap s3 = s3 := IntWalk.i64_in _ (by omega); have ws2' : IntKind.i64.wrap s2 = s2 := IntWalk.i64_in _ (by omega); have wp0' : IntKind.i64.wrap p0 = p0 := IntWalk.i64_in _ (by omega); have wp1' : IntKind.i64.wrap p1 = p1 := IntWalk.i64_in _ (by omega); have wz5' : IntKind.i64.wrap z5 = z5 := IntWalk.i64_in _ (by omega); have wa3 : IntKind.i64.wrap a3 = a3 := IntWalk.i64_in _ (by omega); have wb2 : IntKind.i64.wrap b2 = b2 := IntWalk.i64_in _ (by omega); have o0 : (0 : Int) < (l.length : Int) := by omega
        have o1 : (1 : Int) < (l.length : Int) := by omega
        have o2 : 0 < l.length := by omega
        have o3 : 1 < l.length := by omega
        clear hll hml
        go_wp2_with fail
        have HD := hZ (Below.refl w5.heap.size w5); obtain ⟨w6, hwd⟩ := eX w5.drew; have hB := dB hwd; replace Oc := Oc.b hB; replace II := II.b hB; replace HB := bT HB hB; replace HD := bT HD hB; clear hB; have HBr : Hid (qAb (fun b => False) w6 w6) := hZ (qAb.refl _ _); refine qAs [26] (fun w' => qAb (fun b => False) w6 w') (by kernel_rfl) (by rw [hwd]; exact qAb.refl _ _) (fun hHeld => ?_); rw [hwd] at hHeld ⊢; clear hwd; replace HO := hZ (qDo HD.o HO.o); have c0 := (HD.o.cell (p := ⟨go, 0, none⟩) HG4.o.1).trans HY.o.1; have c1 := (HD.o.cell (p := ⟨go, 1, none⟩) HG4.o.1).trans HY.o.2.1; have y0 := (HD.o.cell (p := ⟨gr0, k, none⟩) HG4.o.2.1).trans HY.o.2.2.1; have y1 := (HD.o.cell (p := ⟨gr1, k, none⟩) HG4.o.2.2).trans HY.o.2.2.2; have m0 := Nat.lt_of_lt_of_le HG4.o.1 HD.o.size; have m1 := Nat.lt_of_lt_of_le HG4.o.2.1 HD.o.size; have m2 := Nat.lt_of_lt_of_le HG4.o.2.2 HD.o.size; refine pU 0 71 ?_; refine pU 1 72 ?_; refine pU 2 73 ?_; refine pU 3 74 ?_; refine tU 4 75 (cF c0 m0) ?_; refine pU 5 76 ?_; refine pU 6 77 ?_; refine tU 7 78 (cF y0 m1) ?_; refine pU 8 79 ?_; refine pU 9 80 ?_; refine pU 10 81 ?_; refine pU 11 82 ?_; refine pU 12 83 ?_; refine pU 13 84 ?_; refine pU 14 85 ?_; refine tU 15 86 (cF c1 m0) ?_; refine pU 16 87 ?_; refine pU 17 88 ?_; refine tU 18 89 (cF y1 m2) ?_; refine pU 19 90 ?_; refine pU 20 91 ?_; refine pU 21 92 ?_; refine pU 22 93 ?_; refine pU 23 94 ?_; refine pU 24 95 ?_; refine pU 25 96 ?_; clear c0 c1 y0 y1 m0 m1 m2; obtain ⟨u9, e1⟩ : ∃ u, w6.cell? ⟨g, k, none⟩ = some u := ⟨_, (Oc.o.cell k).trans (List.getElem?_eq_getElem (by rw [List.length_map, HC.o.1]; exact hkc))⟩; have e2 := Oc.o.frozen (k); have Ocx := Oc; obtain ⟨w7, hw⟩ := eX (w6.setCell ⟨g, k, none⟩ (.int .i64 z5)); have ho : qAb (fun b => b = g) w6 w7 := by rw [<- hw]; exact (qAb.refl (fun b => b = g) _).set (p := ⟨g, k, none⟩) rfl _
        have hN : ∀ b, b = g -> qAg w6 b := fun b e => e ▸ Oc.o.noInt qCi; replace Oc := hZ ((by have h1 := Oc.o.set k (.int .i64 z5); rw [hw, show (Value.int .i64 z5) = zv z5 from rfl, <- List.map_set] at h1; exact h1)); replace II := hZ (II.o.only ho hN (fun i hi => HGg.o.2 i hi)); replace HB := hZ (qAn HB.o ho (fun b e => by have := HGg.o; omega) HB.o.size); have ho9 := ho; clear ho hN; replace HO := hZ (ho9.own HO.o (fun b e (h : b = g) => qBo HO.o e Ocx.o h.symm)); clear ho9 Ocx; replace HC : Hid ((cs.set k z5).length = c /\ ∀ x ∈ cs.set k z5, -Bd <= x /\ x <= Bd) := hZ ⟨by rw [List.length_set]; exact HC.o.1, fun x hx => by rcases List.mem_or_eq_of_mem_set hx with h9 | h9; exact HC.o.2 x h9; rw [h9]; have := HBd.o.2 (by omega); omega⟩; generalize cs.set k z5 = cs at *; refine lU 26 fun K hK => ?_; go_simp
        try rw [hw]
        refine hK.out _ _ ?_; clear hK K
        try simp only [Act.put, sX1, sX2, sX3]
        clear hw e1 e2; refine dU ?_; clear hHeld
        go_wp2_with fail
        go_roundw
        case rel => exact ⟨k + 1, cs, by omega, by go_num, HC, Oc, HO, II, HB⟩
        case measure => simp [intOf]; omega
       ·skip
        by_cases hm2 : m5 = 1
        ·skip
         have g2 : (m5 == 1) = true := by simp [hm2]
         have g3 : ¬ (1 : Int) < (j : Int) := by omega
         go_wp2_with fail
         go_roundw
         case rel => exact ⟨k + 1, cs, by omega, by go_num, HC, Oc, HO, II, HB⟩
         case measure => simp [intOf]; omega
        ·skip
         have g2 : (m5 == 1) = false := by rw [beq_eq_false_iff_ne]; exact hm2
         go_wp2_with fail
         go_roundw
         case rel => exact ⟨k + 1, cs, by omega, by go_num, HC, Oc, HO, II, HB⟩
         case measure => simp [intOf]; omega
    ·skip
     go_wp2_with (at_builtin; refine qBH (W0 := w0) qJe rfl _ _ rfl [rwI (g, c)] 22 _ _ _ rfl rfl rfl (by simp [Value.oneCell', rwI]) HO.o HB.o HB.o.size (by have := HL.o; omega) (by omega) ?_)
     intro g9 cap9 w9 ho9 hb9 hon9 hc9 hgg; have hc10 : l.length + 1 <= cap9 := by
      rcases ho9.o.2 with ⟨hv, _⟩ | ⟨_, _, _, hv, _, _, h4, _, _⟩
      ·cases hv
      ·injection hv with _ _ e
       omega
     have k1 := II.o.only' hon9.o (fun i hi e => qBo HO.o e (II.o.row i hi).1 rfl); have k2 := Oc.o.only hon9.o (fun e => qBo HO.o e Oc.o rfl); have k3 := k1.snoc k2; rw [HC.o.1] at k3
     go_wp2_with fail
     go_roundw
     case rel =>
      refine ⟨j + 1, cap9, some ⟨g9, 0, none⟩, l ++ [(g, c)], M ++ [cs], by omega, by go_num, by simp, by simpa using hc10, hc9, hZ (by have := HL.o; simp; omega), hZ (fun t ht => ?_), hZ (by have h9 := ho9.o; rw [List.length_append, List.map_append]; exact h9), hZ k3, hb9⟩; have hml := II.o.len; have hl := HL.o; simp only [List.length_append, List.length_singleton] at ht; by_cases e9 : t < M.length
      ·rw [List.getElem_append_left e9]; exact HR.o t e9
      ·obtain rfl : t = M.length := by omega
       rw [List.getElem_append_right (Nat.le_refl _)]; simp only [Nat.sub_self, List.getElem_singleton]; rw [show M.length = j by omega, HBe.o]; exact HC.o
     case measure => simp [intOf]; omega
  ·skip
   go_wp2_with fail
   go_ret; have hml := II.o.len; have hl := HL.o; refine ⟨M, _, rfl, qAD.of_own HO.o II.o (fun x hx => by obtain ⟨t, ht, rfl⟩ := List.mem_iff_getElem.1 hx; rw [(HR.o t ht).1]; omega), ⟨by omega, ⟨c, hc5, fun x hx => by obtain ⟨t, ht, rfl⟩ := List.mem_iff_getElem.1 hx; exact (HR.o t ht).1⟩, fun x hx y hy => ?_⟩, HB.o⟩; obtain ⟨t, ht, rfl⟩ := List.mem_iff_getElem.1 hx; have := (HR.o t ht).2 y hy
   split at this <;> omega
open Go.RowKit
theorem qGy {P : Program} {w : World} {base t ty e : Nat} {i : TypeInfo} {size : Nat} (ht : P.underlying t = some (.slice e)) (hi : P.info? e = some i) {v : Value} {n : Nat} {xs : List Value} (hown : w.ownsRow base e size v n xs) (c : Nat) :
 (Builtin.append_ #[t, t] ty #[v, .slice none 0 c]).run P w = .ok v w := by
 obtain ⟨hl, h⟩ := hown; rcases h with ⟨rfl, rfl⟩ | ⟨g, cap, cur, rfl, _, _, hnc, _⟩
 ·simp [Builtin.append_, run_underlying ht, sizeOf, typeInfo, hi, Builtin.lenOf, Builtin.firstCells]
 ·simp [Builtin.append_, run_underlying ht, sizeOf, typeInfo, hi, Builtin.lenOf, Builtin.firstCells, hnc, storeCells]
theorem qDM {P : Program} {W0 w : World} {ops : Array Oper} {rest : List Oper} {o : Oper} {a : Act} {Q : Exit -> Act -> World -> Prop} {B bytes : Nat} {t e : TypeId} (hE : qIq P t e 1 bytes) (hgd : o.guard = none) (s x : Operand)
 (ho : o.op = .call { callee := .builtin .append, args := #[s, x], argTypes := #[t, t] })
 (v u : Value) (n : Nat) (xs : List Value) (l : List Int) (hs : a.eval s = v) (hx : a.eval x = u) (hl : qAm w u l)
 (hown : w.ownsRow B e 1 v n xs) (hB : Below B W0 w) (hle : B <= w.heap.size) (hn : n + l.length <= 1000000000) (hby : bytes <= 1000)
 (h : ∀ v' w', Hid (w'.ownsRow B e 1 v' (n + l.length) (xs ++ l.map zv)) -> Hid (Below B W0 w') -> Hid (qAb (fun b => v.ownBlock = some b) w w') -> wpList P ops Q rest (a.put o.dst v') w') : wpList P ops Q (o :: rest) a w := by
 obtain ⟨ad, cap, rfl, h1, h2, hc⟩ := hl; rcases Nat.eq_zero_or_pos l.length with h0 | h0
 ·obtain rfl := List.eq_nil_of_length_eq_zero h0
  cases ad with
  | none =>
   obtain ⟨ht, i, z, hi, hz, hsize, hbyt, hzs, hk⟩ := hE; refine wpList_plain hgd fun K hK => ?_; have hrun := qGy (P := P) (w := w) (base := B) (t := t) (ty := o.type) ht hi hown cap; unfold Oper.wp; simp [execOp, ho, resolve, invoke, builtin, hs, hx, hrun, Result.andThen]; exact hK _ _ (h v w (hZ (by simpa using hown)) (hZ hB) (hZ (qAb.refl _ _)))
  | some ad =>
   exact qDL (W0 := W0) (B := B) hE hgd s x ho v n xs hs ad 0 cap [] (by rw [hx]; rfl) rfl (fun j u hu => by simp at hu) (by simp) hown hB hle hn hby h
 ·obtain ⟨b, rfl, hlt, hcc⟩ := hc h0
  refine qDL (W0 := W0) (B := B) hE hgd s x ho v n xs hs ⟨b, 0, none⟩ l.length cap (l.map zv) hx (by simp) (fun j u hu => ?_) ?_ hown hB hle hn hby h
  ·have hj : j < l.length := by
    rcases Nat.lt_or_ge j l.length with h3 | h3
    ·exact h3
    ·rw [List.getElem?_eq_none (by simpa using h3)] at hu; cases hu
   obtain ⟨cs, rfl, _, hcl⟩ := hcc j hj; have hadd : (⟨b, 0, none⟩ : Addr).add j = ⟨b, j, none⟩ := by unfold Addr.add; split <;> simp_all
   have := hcl 0 (by omega); rw [Nat.mul_one, Nat.add_zero] at this; rw [hadd, this]; simpa [hj] using hu
  ·intro u hu
   obtain ⟨y, _, rfl⟩ := List.mem_map.1 hu; rfl
theorem qJQ (w : World) (e : TypeId) (cs : List Value) (hm : cs.length <= 1000000000) : (w.alloc (.cells cs.toArray e)).ownsRow w.heap.size e 1 (.slice (some ⟨w.heap.size, 0, none⟩) cs.length cs.length) cs.length cs :=
 ⟨by simp, .inr ⟨w.heap.size, cs.length, cs.toArray, rfl, Nat.le_refl _, heap_alloc_new w _, Nat.le_refl _, by unfold maxLen; omega, by simp, by simp⟩⟩
theorem qGt {w : World} {base t g n cap : Nat} {xs : List Value} (h : w.ownsRow base t 1 (.slice (some ⟨g, 0, none⟩) n cap) n xs) : ∃ tl, qAy w g t (xs ++ tl) := by
 obtain ⟨hl, ho⟩ := h; rcases ho with ⟨hv, _⟩ | ⟨g', cap', cur, hv, hb, hh, hn, hm, hs, ht⟩
 ·cases hv
 ·injection hv with e1 e2 e3
  injection e1 with e1; injection e1 with e1; subst e1; refine ⟨cur.toList.drop (n * 1), ?_⟩; rw [<- ht, List.take_append_drop]; exact hh
theorem qFS {w : World} {g cap : Nat} {t : TypeId} {l : List Int} {tl : List Value} (h : qAy w g t (l.map zv ++ tl)) (hc : l.length <= cap) (hc2 : cap <= 9223372036854775807) : qAm w (.slice (some ⟨g, 0, none⟩) l.length cap) l := by
 refine ⟨_, cap, rfl, hc, hc2, fun h0 => ⟨g, rfl, h.lt, fun j hj => ⟨_, rfl, rfl, fun i hi => ?_⟩⟩⟩; obtain rfl : i = 0 := by omega
 rw [Nat.mul_one, Nat.add_zero, h.cell, List.getElem?_append_left (by simpa using hj)]; simp [hj]
theorem qJO (l : List Int) (tl : List Value) (j : Nat) (x : Int) (h : j < l.length) : (l.map zv ++ tl).set j (.int .i64 x) = (l.set j x).map zv ++ tl := by
 rw [List.set_append_left _ _ (by simpa using h), List.map_set]; rfl
theorem qJP {w : World} {base t n : Nat} {v : Value} {l : List Int} (h : w.ownsRow base t 1 v n (l.map zv)) (hn : n = l.length) (h0 : 0 < n) : ∃ g cap, v = .slice (some ⟨g, 0, none⟩) l.length cap /\ base <= g /\ l.length <= cap /\ cap <= 9223372036854775807 /\ ∃ tl, qAy w g t (l.map zv ++ tl) := by
 subst hn; rcases h.2 with ⟨hv, hx⟩ | ⟨g, cap, cur, rfl, hb, hh, hnc, hm, hs, ht⟩
 ·have : l = [] := by simpa using hx
  subst this; simp at h0
 ·exact ⟨g, cap, rfl, hb, hnc, by unfold maxLen at hm; exact hm, qGt h⟩
theorem qLo {M : List (List Int)} {a b : Nat} (ha : a < M.length) (hb : b < M.length) (j : Nat) : ent (qAt M a b ha hb) a j = ent M b j := by
 have h1 : a < (qAt M a b ha hb).length := by rw [qAc]; exact ha
 unfold ent; rw [List.getElem?_eq_getElem h1, List.getElem?_eq_getElem hb, qAr a ha]; by_cases e : a = b
 ·subst e; simp
 ·rw [if_neg e, if_pos rfl]
theorem qEE {M0 : List (List Int)} {c : Nat} (hc : ∀ r ∈ M0, r.length = c) : ∀ col, ∃ M ps d, qA2 M0 M ps d col /\ ∀ r ∈ M, r.length = c
 | 0 => ⟨M0, [], 1, qA2.start M0, hc⟩
 | n + 1 => by
  obtain ⟨M, ps, d, h, hr⟩ := qEE hc n; by_cases hz : ∃ i, ps.length <= i /\ i < M.length /\ ent M i n ≠ 0
  ·obtain ⟨i, hp, hi, hne⟩ := hz
   have hk : ps.length < M.length := by omega
   have hs := h.swap ps.length i hk hi (Nat.le_refl _) hp; have hk2 : ps.length < (qAt M ps.length i hk hi).length := by rw [qAc]; exact hk
   have hr2 : ∀ r ∈ qAt M ps.length i hk hi, r.length = c := fun r hr' => hr r (qA5 r hr'); refine ⟨_, _, _, hs.step hr2 hk2 (by rw [qLo]; exact hne), fun r hr' => ?_⟩; obtain ⟨t, ht, rfl⟩ := List.mem_iff_getElem.1 hr'; rw [qBi] at ht; rw [qBX ht hk2]
   split
   ·exact hr2 _ (List.getElem_mem _)
   ·exact qE0 (hr2 _ (List.getElem_mem _)) (hr2 _ (List.getElem_mem _))
  ·exact ⟨M, ps, d, h.skip (fun q h1 h2 => Classical.byContradiction (fun h3 => hz ⟨q, h1, h2, h3⟩)), hr⟩
theorem qJd {M0 : List (List Int)} {c : Nat} (hc : ∀ r ∈ M0, r.length = c) : ∃ (A M : List Vec) (ps : List Nat) (d : Int), A.length = M0.length /\ (∀ r, r ∈ A ↔ r ∈ M0.map vec) /\ qBD A M ps d c /\ (∀ i (h : i < M.length), ps.length <= i -> ∀ j, M[i] j = 0) /\ (Ind (M0.map vec) ↔ ps.length = M.length) := by
 obtain ⟨M, ps, d, ⟨A, a1, a2, a3, a4⟩, hr⟩ := qEE hc c; have hz : ∀ i (h : i < (M.map vec).length), ps.length <= i -> ∀ j, (M.map vec)[i] j = 0 := fun i h hp j => by
  rcases Nat.lt_or_ge j c with hj | hj
  ·exact a3.zero i h hp j hj
  ·rw [List.getElem_map, qAq (by rw [hr _ (List.getElem_mem _)]; exact hj)]
 refine ⟨A.map vec, M.map vec, ps, d, by rw [List.length_map, a1], fun r => ?_, a3, hz, a4.trans (a3.ind hz)⟩; simp only [List.mem_map]; exact ⟨fun ⟨x, hx, e⟩ => ⟨x, (a2 x).1 hx, e⟩, fun ⟨x, hx, e⟩ => ⟨x, (a2 x).2 hx, e⟩⟩
theorem Nrm.piv_dvd : ∀ {lo : Nat} {B : List Vec} {v : Vec} {c : Nat}, Nrm lo B -> qAa B v -> qBS v c -> ∃ s ∈ B, qBS s c /\ 0 < s c /\ s c ∣ v c
 | _, [], v, c, _, h, hp => absurd (qBY h c) hp.2
 | lo, r :: rs, v, c, ⟨p, h1, h2, h3, h4, h5⟩, h, hp => by
  obtain ⟨x, w, hw, he⟩ := qBM h; rcases Nat.lt_trichotomy c p with hc | hc | hc
  ·refine absurd ?_ hp.2
   rw [he, h2.1 c hc, h4.low hw c (by omega)]; simp
  ·subst hc
   exact ⟨r, by simp, h2, h3, x, by rw [he, h4.low hw c (by omega), Int.mul_comm]; simp⟩
  ·obtain ⟨s, k1, k2⟩ := h4.piv_dvd (h4_tail h2 h4 h (hp.1 p hc)) hp
   exact ⟨s, by simp [k1], k2⟩
where h4_tail {p : Nat} {r : Vec} {rs : List Vec} {v : Vec} (h2 : qBS r p) (h4 : Nrm (p + 1) rs) (h : qAa (r :: rs) v) (h0 : v p = 0) : qAa rs v := Nrm.tail h2.2 h4 h h0
theorem Nrm.ent_le : ∀ {lo : Nat} {B : List Vec}, Nrm lo B -> ∀ v ∈ B, ∀ s ∈ B, ∀ e, qBS s e -> 0 <= v e /\ v e <= s e
 | _, [], _, v, hv, _, _, _, _ => by cases hv
 | lo, r :: rs, ⟨p, h1, h2, h3, h4, h5⟩, v, hv, s, hs, e, he => by
  rcases List.mem_cons.1 hv with rfl | hv' <;> rcases List.mem_cons.1 hs with rfl | hs'
  ·obtain rfl := h2.uniq he
   omega
  ·have := h5 s hs' e he; omega
  ·obtain rfl := h2.uniq he
   have := h4.low (qAa.mem hv') p (by omega); omega
  ·exact h4.ent_le v hv' s hs' e he
section
variable {A M : List Vec} {ps : List Nat} {d : Int} {col : Nat}
theorem qBD.mpiv (h : qBD A M ps d col) (t : Nat) (ht : t < ps.length) (hm : t < M.length) : qBS M[t] ps[t] /\ M[t] ps[t] = d := by
 have h1 := h.diag t t hm ht ht; rw [if_pos rfl] at h1; exact ⟨⟨fun j hj => h.left t hm ht j hj, by rw [h1]; exact h.d0⟩, h1⟩
theorem qBD.mspan (h : qBD A M ps d col) (t : Nat) (hm : t < M.length) : qAa A M[t] := (h.minor _ (List.getElem_mem hm)).span
theorem qBD.lenM (h : qBD A M ps d col) : ps.length <= M.length := by have := h.len; have := h.le; omega
theorem qBD.piv (h : qBD A M ps d col) (h0 : ∀ i (h : i < M.length), ps.length <= i -> ∀ j, M[i] j = 0) {v : Vec} (hv : qAa A v) {c : Nat} (hp : qBS v c) : c ∈ ps := by
 refine Classical.byContradiction (fun hn => hp.2 ?_); have h1 := h.coord h0 hv c; rw [qBb _ _ _ _ (fun t ht => by
  have htp : t < ps.length := by rw [List.length_take] at ht; omega
  rw [Nat.zero_add, List.getElem_take]; rcases Nat.lt_trichotomy ps[t] c with hc | hc | hc
  ·simp only [res, dif_pos htp]
   rw [hp.1 _ hc, Int.zero_mul]
  ·exact absurd (hc ▸ List.getElem_mem htp) hn
  ·rw [h.left t (by rw [List.length_take] at ht; omega) htp c hc, Int.mul_zero])] at h1
 exact (Int.mul_eq_zero.1 h1).resolve_left h.d0
end
theorem qKw (D F : Nat) (u : Vec) (j : Nat) : ∀ (M : List Vec) (s : Nat), (∀ t, (u t).natAbs <= D) -> (∀ r ∈ M, (r j).natAbs <= F) -> (qA4 u M s j).natAbs <= M.length * (D * F)
 | [], s, _, _ => by simp [qA4]
 | r :: M, s, h1, h2 => by
  have ih := qKw D F u j M (s + 1) h1 (fun r hr => h2 r (by simp [hr])); have h3 : (u s * r j).natAbs <= D * F := by rw [Int.natAbs_mul]; exact Nat.mul_le_mul (h1 s) (h2 r (by simp))
  simp only [qA4, List.length_cons, Nat.succ_mul]; omega
def fac : Nat -> Nat
 | 0 => 1
 | n + 1 => (n + 1) * fac n
theorem qI7 : ∀ n, 1 <= fac n
 | 0 => Nat.le_refl _
 | n + 1 => Nat.mul_pos (by omega) (qI7 n)
theorem qJi (X : Nat) : ∀ (cs : List Nat) (K : Nat) (R : List Vec), R.length <= K -> (∀ r ∈ R, ∀ j, (r j).natAbs <= X) -> (det cs R).natAbs <= fac K * X ^ cs.length
 | [], K, R, _, _ => by simp [det]; exact qI7 K
 | c :: cs, 0, R, hK, hM => by
  have : R = [] := List.eq_nil_of_length_eq_zero (by omega); subst this; simp [det, xpd]
 | c :: cs, K + 1, R, hK, hM => by
  have := qIv c X (fac K * X ^ cs.length) R (det cs) (fun r hr => hM r hr c) (fun l hl hlen => qJi X cs K l (by omega) (fun r hr => hM r (hl r hr))); refine Nat.le_trans this (Nat.le_trans (Nat.mul_le_mul_right _ hK) (Nat.le_of_eq ?_)); rw [List.length_cons, Nat.pow_succ, fac, <- Nat.mul_assoc X, Nat.mul_comm X, Nat.mul_assoc, Nat.mul_comm X, <- Nat.mul_assoc]
theorem qDu.fac {A : List Vec} {v : Vec} (h : qDu A v) (X K : Nat) (hK : A.length <= K) (hX1 : 1 <= X) (hX : ∀ r ∈ A, ∀ j, (r j).natAbs <= X) (j : Nat) : (v j).natAbs <= Go.Proofs.Ytlmbebbdamgfpaa.fac K * X ^ K := by
 obtain ⟨s, C, R, hs, hC, hR, hRA, hv⟩ := h; have h1 := qJi X (j :: C) K R (by omega) (fun r hr => hX r (hRA r hr)); have h2 : X ^ (j :: C).length <= X ^ K := Nat.pow_le_pow_right hX1 (by simp; omega); rw [hv, Int.natAbs_mul]; have : s.natAbs = 1 := by rcases hs with rfl | rfl <;> rfl
 rw [this, Nat.one_mul]; exact Nat.le_trans h1 (Nat.mul_le_mul_left _ h2)
theorem qAC.bound {M0 : List (List Int)} {H : List Vec} {c n K X : Nat} (h : qAC (M0.map vec) c H) (hn : ∀ r ∈ M0, r.length = n) (hl : M0.length <= K) (hX1 : 1 <= X) (hX : ∀ r ∈ M0.map vec, ∀ j, (r j).natAbs <= X) : ∀ v ∈ H, ∀ j, (v j).natAbs <= K * (fac K * X ^ K) := by
 obtain ⟨A, M, ps, d, a1, a2, he, h0, -⟩ := qJd hn; have hA : ∀ r ∈ A, qAa (M0.map vec) r := fun r hr => qAa.mem ((a2 r).1 hr); have hA' : ∀ r ∈ M0.map vec, qAa A r := fun r hr => qAa.mem ((a2 r).2 hr); have hXA : ∀ r ∈ A, ∀ j, (r j).natAbs <= X := fun r hr => hX r ((a2 r).1 hr); intro v hv j; obtain ⟨u, u1, u2, u3⟩ := (h.span v).1 (qAa.mem hv); have u1' := u1.trans hA'; have hc := he.coord h0 u1' (c + j); have hb : ∀ t, (res ps u t).natAbs <= d.natAbs := fun t => by
  unfold res
  split
  ·next ht =>
   have htm : t < M.length := Nat.lt_of_lt_of_le ht he.lenM; rcases Nat.lt_or_ge ps[t] c with hp | hp
   ·rw [u2 _ hp]; simp
   ·obtain ⟨p1, p2⟩ := he.mpiv t ht htm
    have e1 : c + (ps[t] - c) = ps[t] := by omega
    have hs : qAa H (sh c M[t]) := (h.span _).2 ⟨M[t], (he.mspan t htm).trans hA, fun k hk => p1.1 k (by omega), fun k => rfl⟩; obtain ⟨s, s1, s2, s3, s4⟩ := h.nrm.piv_dvd (c := ps[t] - c) hs ⟨fun k hk => p1.1 _ (by omega), by unfold sh; rw [e1]; exact p1.2⟩; have s5 := h.nrm.ent_le v hv s s1 _ s2; have s6 := u3 (ps[t] - c); rw [e1] at s6; have s7 : sh c M[t] (ps[t] - c) = d := by unfold sh; rw [e1]; exact p2
    rw [s7] at s4; have s8 : (s (ps[t] - c)).natAbs <= d.natAbs := Nat.le_of_dvd (Int.natAbs_pos.2 he.d0) (Int.natAbs_dvd_natAbs.2 s4); rw [<- s6]; omega
  ·simp
 have hm := qKw d.natAbs (fac K * X ^ K) (res ps u) (c + j) (M.take ps.length) 0 hb (fun r hr => (he.minor r (List.mem_of_mem_take hr)).fac X K (by rw [a1]; exact hl) hX1 hXA (c + j)); rw [<- hc, Int.natAbs_mul, <- u3] at hm; have hk : (M.take ps.length).length <= K := by
  rw [List.length_take]; have := he.len; omega
 have h9 : d.natAbs * (v j).natAbs <= d.natAbs * (K * (fac K * X ^ K)) := by
  refine Nat.le_trans hm (Nat.le_trans (Nat.mul_le_mul_right _ hk) (Nat.le_of_eq ?_)); rw [Nat.mul_left_comm]
 exact Nat.le_of_mul_le_mul_left h9 (Int.natAbs_pos.2 he.d0)
theorem Nrm.pivots : ∀ {lo : Nat} {B : List Vec}, Nrm lo B -> ∃ P : List Nat, P.length = B.length /\ P.Pairwise (· < ·) /\ (∀ p ∈ P, lo <= p) /\ ∀ e, e ∈ P ↔ ∃ s ∈ B, qBS s e
 | lo, [], _ => ⟨[], rfl, List.Pairwise.nil, by simp, by simp⟩
 | lo, r :: rs, ⟨c, h1, h2, h3, h4, h5⟩ => by
  obtain ⟨P, p1, p2, p3, p4⟩ := h4.pivots; refine ⟨c :: P, by simp [p1], List.pairwise_cons.2 ⟨fun a ha => by have := p3 a ha; omega, p2⟩, fun p hp => ?_, fun e => ?_⟩
  ·rcases List.mem_cons.1 hp with rfl | hp
   ·exact h1
   ·have := p3 p hp; omega
  ·constructor
   ·intro he
    rcases List.mem_cons.1 he with rfl | he
    ·exact ⟨r, by simp, h2⟩
    ·obtain ⟨s, s1, s2⟩ := (p4 e).1 he
     exact ⟨s, by simp [s1], s2⟩
   ·rintro ⟨s, hs, hp⟩
    rcases List.mem_cons.1 hs with rfl | hs
    ·obtain rfl := h2.uniq hp
     simp
    ·exact List.mem_cons.2 (.inr ((p4 e).2 ⟨s, hs, hp⟩))
theorem qHy {x : Vec} {j : Nat} : ∀ (L L' : List Vec) (s : Nat), L.length = L'.length -> (∀ i (h : i < L.length) (h' : i < L'.length), L[i] j = L'[i] j) -> qA4 x L s j = qA4 x L' s j
 | [], [], s, _, _ => rfl
 | [], a :: b, s, hl, _ => by simp at hl
 | a :: b, [], s, hl, _ => by simp at hl
 | r :: L, r' :: L', s, hl, he => by
  simp only [qA4]; rw [qHy L L' (s + 1) (by simpa using hl) (fun i h h' => he (i + 1) (by simpa using h) (by simpa using h'))]; have := he 0 (by simp) (by simp); simp only [List.getElem_cons_zero] at this; rw [this]
theorem qI3 {m : List (List Int)} {c : Nat} (hc : ∀ r ∈ m, r.length = c) (x : Vec) (j : Nat) (hj : j < c) : qA4 x ((qAV m).map vec) 0 j = qA4 x (m.map vec) 0 j := by
 refine qHy _ _ 0 (by simp [qAx]) (fun i h h' => ?_); simp only [List.length_map] at h'; rw [List.getElem_map, List.getElem_map, qBp m i h', qCq, qEP, if_pos (by rw [hc _ (List.getElem_mem _)]; exact hj)]
theorem qHs {m : List (List Int)} {c : Nat} (hc : ∀ r ∈ m, r.length = c) (x : Vec) (t : Nat) : qA4 x ((qAV m).map vec) 0 (c + t) = if t < m.length then x t else 0 := by
 rw [qE7 x (c + t) t _ 0 (fun i h => ?_)]
 ·simp [qAx]
 ·simp only [List.length_map, qAx] at h
  rw [List.getElem_map, qBp m i h, qCq, qEP, hc _ (List.getElem_mem _), if_neg (by omega), show c + t - c = t by omega, qG4 _ _ _ h, Nat.zero_add]
theorem qLf {m : List (List Int)} {c : Nat} (hc : ∀ r ∈ m, r.length = c) (x : Vec) (j : Nat) (hj : c <= j) : qA4 x (m.map vec) 0 j = 0 :=
 qBb _ _ _ _ (fun t ht => by
  rw [List.getElem_map, qAq (by rw [hc _ (List.getElem_mem _)]; exact hj), Int.mul_zero])
theorem qB8.norm {m : List (List Int)} {c : Nat} (hc : ∀ r ∈ m, r.length = c) {H : List Vec} (h : qB8 m H) : qAC ((qAV m).map vec) c H := by
 refine ⟨h.nrm, fun v => (h.span v).trans ⟨?_, ?_⟩⟩
 ·rintro ⟨h1, h2⟩
  refine ⟨qA4 v ((qAV m).map vec) 0, qC2.2 ⟨v, fun _ => rfl⟩, fun j hj => by rw [qI3 hc v j hj, h2], fun j => ?_⟩; rw [qHs hc]
  split
  ·rfl
  ·exact h1 j (by omega)
 ·rintro ⟨u, h1, h2, h3⟩
  obtain ⟨x, hx⟩ := qC2.1 h1; have h4 : ∀ t, v t = if t < m.length then x t else 0 := fun t => by rw [h3, hx, qHs hc]
  refine ⟨fun j hj => by rw [h4, if_neg (by omega)], fun j => ?_⟩; rcases Nat.lt_or_ge j c with hj | hj
  ·rw [qCx v x j _ 0 (fun t _ ht => by rw [h4, if_pos (by simpa using ht)]), <- qI3 hc x j hj, <- hx, h2 j hj]
  ·exact qLf hc v j hj
def qCn (a b : List Int) (q : Int) : List Int := (List.range a.length).map (fun j => vec a j - q * vec b j)
theorem qA9 {a b : List Int} {q : Int} : (qCn a b q).length = a.length := by simp [qCn]
theorem qE4 {a b : List Int} {q : Int} (j : Nat) (h : j < a.length) : (qCn a b q)[j]'(by rw [qA9]; exact h) = vec a j - q * vec b j := by simp [qCn]
theorem qDF {a b : List Int} {q : Int} (hl : b.length = a.length) (j : Nat) : vec (qCn a b q) j = vec a j - q * vec b j := by
 rcases Nat.lt_or_ge j a.length with h | h
 ·rw [qAj (by rw [qA9]; exact h), qE4 j h]
 ·rw [qAq (by rw [qA9]; exact h), qAq h, qAq (by omega)]; simp
structure qDw (M0 M : List (List Int)) (n c top : Nat) : Prop where
 len : M.length = M0.length
 row : ∀ r ∈ M, r.length = n
 span : ∀ v, qAa (M.map vec) v ↔ qAa (M0.map vec) v
 le : top <= M.length
 piv : ∃ ps : List Nat, ps.length = top /\ ps.Pairwise (· < ·) /\ (∀ p ∈ ps, p < c) /\ ∀ i (h : i < M.length) (h' : i < ps.length), qBS (vec M[i]) ps[i]
 low : ∀ i (h : i < M.length), top <= i -> ∀ j, j < c -> vec M[i] j = 0
theorem qDw.start {M : List (List Int)} {n : Nat} (h : ∀ r ∈ M, r.length = n) : qDw M M n 0 0 :=
 ⟨rfl, h, fun _ => Iff.rfl, Nat.zero_le _, ⟨[], rfl, List.Pairwise.nil, fun _ h => (by cases h), fun _ _ h => (by simp at h)⟩, fun _ _ _ j hj => by omega⟩
section
variable {M0 M M' : List (List Int)} {n c top : Nat}
theorem qDw.turn (h : qDw M0 M n c top) (hl : M'.length = M.length) (hr : ∀ r ∈ M', r.length = n) (hlow : ∀ i (hi : i < M.length) (hi' : i < M'.length), i < top -> M'[i] = M[i])
 (h1 : ∀ i (hi : i < M'.length), top <= i -> qAa ((M.drop top).map vec) (vec M'[i])) (h2 : ∀ i (hi : i < M.length), top <= i -> qAa ((M'.drop top).map vec) (vec M[i])) : qDw M0 M' n c top := by
 have g : ∀ (A B : List (List Int)), A.length = B.length -> (∀ i (hi : i < A.length) (hi' : i < B.length), i < top -> A[i] = B[i]) -> (∀ i (hi : i < A.length), top <= i -> qAa ((B.drop top).map vec) (vec A[i])) -> ∀ v, qAa (A.map vec) v -> qAa (B.map vec) v := by
  intro A B hl he hs v hv; refine hv.trans (fun r hr => ?_); obtain ⟨a, ha, rfl⟩ := List.mem_map.1 hr; obtain ⟨i, hi, rfl⟩ := List.mem_iff_getElem.1 ha; rcases Nat.lt_or_ge i top with h3 | h3
  ·rw [he i hi (by omega) h3]
   exact qAa.mem (List.mem_map.2 ⟨_, List.getElem_mem _, rfl⟩)
  ·refine (hs i hi h3).trans (fun s hs' => qAa.mem ?_)
   obtain ⟨b, hb, rfl⟩ := List.mem_map.1 hs'; exact List.mem_map.2 ⟨b, List.mem_of_mem_drop hb, rfl⟩
 refine ⟨by rw [hl, h.len], hr, fun v => Iff.trans ⟨g M' M hl (fun i hi hi' => hlow i hi' hi) h1 v, g M M' hl.symm (fun i hi hi' ht => (hlow i hi hi' ht).symm) h2 v⟩ (h.span v), by rw [hl]; exact h.le, ?_, fun i hi ht j hj => ?_⟩
 ·obtain ⟨ps, p1, p2, p3, p4⟩ := h.piv
  exact ⟨ps, p1, p2, p3, fun i hi hi' => by rw [hlow i (by omega) hi (by omega)]; exact p4 i _ hi'⟩
 ·refine (h1 i hi ht).lin (P := fun v => v j = 0) rfl (fun x u w hu hw => by show x * u j + w j = 0; rw [hu, hw]; simp) (fun u w he hu => by rw [<- he j]; exact hu) (fun r hr => ?_)
  obtain ⟨b, hb, rfl⟩ := List.mem_map.1 hr; obtain ⟨k, hk, rfl⟩ := List.mem_iff_getElem.1 hb; rw [List.getElem_drop]; exact h.low _ _ (by omega) j hj
theorem qA8 {M : List (List Int)} {top k : Nat} (hk : k < M.length) (h : top <= k) : vec M[k] ∈ (M.drop top).map vec := by
 refine List.mem_map.2 ⟨M[k], ?_, rfl⟩; rw [List.mem_iff_getElem]; exact ⟨k - top, by simp; omega, by rw [List.getElem_drop]; congr 1; omega⟩
theorem qDw.swap (h : qDw M0 M n c top) {a b : Nat} (ha : a < M.length) (hb : b < M.length) (h1 : top <= a) (h2 : top <= b) : qDw M0 (qAt M a b ha hb) n c top := by
 refine h.turn qAc (fun r hr => h.row r (qA5 r hr)) (fun i hi hi' ht => ?_) (fun i hi ht => ?_) (fun i hi ht => ?_)
 ·rw [qAr i hi, if_neg (by omega), if_neg (by omega)]
 ·rw [qAr i (by rw [qAc] at hi; exact hi)]
  split
  ·exact qAa.mem (qA8 ha h1)
  ·split
   ·exact qAa.mem (qA8 hb h2)
   ·exact qAa.mem (qA8 _ ht)
 ·have e : ∀ k (hk : k < M.length), top <= k -> qAa (((qAt M a b ha hb).drop top).map vec) (vec ((qAt M a b ha hb)[k]'(by rw [qAc]; exact hk))) := fun k hk hkt => qAa.mem (qA8 _ hkt)
  by_cases e1 : i = a
  ·subst e1
   have := e b hb h2
   rwa [qAr b hb, if_pos rfl] at this
  ·by_cases e2 : i = b
   ·subst e2
    have := e a ha h1; rw [qAr a ha, if_neg (by omega), if_pos rfl] at this; exact this
   ·have := e i hi ht
    rwa [qAr i hi, if_neg e2, if_neg e1] at this
structure qDh (M : List (List Int)) (top c i : Nat) (M' : List (List Int)) : Prop where
 len : M'.length = M.length
 same : ∀ k (hk : k < M.length) (hk' : k < M'.length), k <= top \/ i <= k -> M'[k] = M[k]
 done : ∀ k (hk : k < M.length) (hk' : k < M'.length), top < k -> k < i -> M'[k] = qCn M[k] (M[top]?.getD []) (ent M k c / ent M top c)
theorem qDh.start {M : List (List Int)} {top c : Nat} : qDh M top c (top + 1) M := ⟨rfl, fun _ _ _ _ => rfl, fun _ _ _ h1 h2 => by omega⟩
theorem qDh.step {i : Nat} (h : qDh M top c i M') (ht : top < i) (hi : i < M.length) {r : List Int} (hr : r = qCn M[i] (M[top]?.getD []) (ent M i c / ent M top c)) : qDh M top c (i + 1) (M'.set i r) := by
 refine ⟨by rw [List.length_set]; exact h.len, fun k hk hk' hc => ?_, fun k hk hk' h1 h2 => ?_⟩
 ·rw [List.length_set] at hk'
  rw [List.getElem_set_ne (by omega)]; exact h.same k hk hk' (by omega)
 ·rw [List.length_set] at hk'
  by_cases e : k = i
  ·subst e
   rw [List.getElem_set_self, hr]
  ·rw [List.getElem_set_ne (Ne.symm e)]
   exact h.done k hk hk' h1 (by omega)
theorem qDh.row {i : Nat} (h : qDh M top c i M') (hr : ∀ r ∈ M, r.length = n) : ∀ r ∈ M', r.length = n := by
 intro r hr'; obtain ⟨k, hk, rfl⟩ := List.mem_iff_getElem.1 hr'; have hk2 : k < M.length := by rw [<- h.len]; exact hk
 by_cases e : top < k /\ k < i
 ·rw [h.done k hk2 hk e.1 e.2, qA9]; exact hr _ (List.getElem_mem _)
 ·rw [h.same k hk2 hk (by omega)]; exact hr _ (List.getElem_mem _)
theorem qDw.red {i : Nat} (h : qDw M0 M n c top) (ht : top < M.length) (hd : qDh M top c i M') : qDw M0 M' n c top := by
 have hv : ∀ k (hk : k < M.length) (hk' : k < M'.length), top < k -> k < i -> ∀ j, vec M'[k] j = vec M[k] j - (ent M k c / ent M top c) * vec M[top] j := fun k hk hk' h1 h2 j => by
  rw [hd.done k hk hk' h1 h2, List.getElem?_eq_getElem ht, Option.getD_some, qDF (by rw [h.row _ (List.getElem_mem _), h.row _ (List.getElem_mem _)])]
 have ht' : top < M'.length := by rw [hd.len]; exact ht
 have e0 : M'[top] = M[top] := hd.same top ht ht' (.inl (Nat.le_refl _)); refine h.turn hd.len (hd.row h.row) (fun k hk hk' hkt => hd.same k hk hk' (by omega)) (fun k hk hkt => ?_) (fun k hk hkt => ?_)
 ·have hk2 : k < M.length := by rw [<- hd.len]; exact hk
  by_cases e : top < k /\ k < i
  ·exact ((qAa.mem (qA8 hk2 hkt)).sub ((qAa.mem (qA8 ht (Nat.le_refl _))).smul _)).congr (fun j => (hv k hk2 hk e.1 e.2 j).symm)
  ·rw [hd.same k hk2 hk (by omega)]
   exact qAa.mem (qA8 hk2 hkt)
 ·have hk2 : k < M'.length := by rw [hd.len]; exact hk
  by_cases e : top < k /\ k < i
  ·refine ((qAa.mem (qA8 hk2 hkt)).add ((qAa.mem (qA8 ht' (Nat.le_refl _))).smul (ent M k c / ent M top c))).congr (fun j => ?_)
   rw [hv k hk hk2 e.1 e.2 j, e0]; omega
  ·have := qAa.mem (qA8 hk2 hkt)
   rwa [hd.same k hk hk2 (by omega)] at this
theorem qDw.col0 (h : qDw M0 M n c top) (h0 : ∀ k, top <= k -> k < M.length -> ent M k c = 0) : qDw M0 M n (c + 1) top :=
 ⟨h.len, h.row, h.span, h.le, by
  obtain ⟨ps, p1, p2, p3, p4⟩ := h.piv; exact ⟨ps, p1, p2, fun p hp => by have := p3 p hp; omega, p4⟩, fun i hi ht j hj => by
  rcases Nat.lt_or_ge j c with h1 | h1
  ·exact h.low i hi ht j h1
  ·obtain rfl : j = c := by omega
   have := h0 i ht hi; simpa [ent, hi] using this⟩
theorem qDw.col1 (h : qDw M0 M n c top) (ht : top < M.length) (hp : ent M top c ≠ 0) (h0 : ∀ k, top < k -> k < M.length -> ent M k c = 0) : qDw M0 M n (c + 1) (top + 1) :=
 ⟨h.len, h.row, h.span, ht, by
  obtain ⟨ps, p1, p2, p3, p4⟩ := h.piv; refine ⟨ps ++ [c], by simp [p1], List.pairwise_append.2 ⟨p2, List.pairwise_singleton _ _, fun a ha b hb => by rw [List.mem_singleton.1 hb]; exact p3 a ha⟩, fun p hp => ?_, fun i hi hi' => ?_⟩
  ·rcases List.mem_append.1 hp with h1 | h1
   ·have := p3 p h1; omega
   ·rw [List.mem_singleton.1 h1]; omega
  ·rw [List.getElem_append]
   split
   ·next h1 => exact p4 i hi h1
   ·next h1 =>
    simp only [List.length_append, List.length_singleton] at hi'; obtain rfl : i = top := by omega
    simp only [List.getElem_singleton]; exact ⟨fun j hj => h.low i hi (Nat.le_refl _) j hj, by simpa [ent, hi] using hp⟩, fun i hi ht' j hj => by
  rcases Nat.lt_or_ge j c with h1 | h1
  ·exact h.low i hi (by omega) j h1
  ·obtain rfl : j = c := by omega
   have := h0 i (by omega) hi; simpa [ent, hi] using this⟩
structure qGi (M : List (List Int)) (top c i left least : Nat) : Prop where
 le : top <= i /\ i <= M.length /\ left + top <= i
 none : left = 0 -> least = top /\ ∀ k, top <= k -> k < i -> ent M k c = 0
 some : 0 < left -> top <= least /\ least < i /\ ent M least c ≠ 0 /\ ∀ k, top <= k -> k < i -> ent M k c ≠ 0 -> (ent M least c).natAbs <= (ent M k c).natAbs
 one : left = 1 -> ∀ k, top <= k -> k < i -> k ≠ least -> ent M k c = 0
 two : 2 <= left -> ∃ k, top <= k /\ k < i /\ k ≠ least /\ ent M k c ≠ 0
theorem qGi.start {M : List (List Int)} {top c : Nat} (h : top <= M.length) : qGi M top c top 0 top :=
 ⟨⟨Nat.le_refl _, h, by omega⟩, fun _ => ⟨rfl, fun k h1 h2 => by omega⟩, fun h => by omega, fun h => by omega, fun h => by omega⟩
theorem qGi.zero {i left least : Nat} (h : qGi M top c i left least) (hi : i < M.length) (h0 : ent M i c = 0) : qGi M top c (i + 1) left least := by
 have hl := h.le; refine ⟨⟨by omega, by omega, by omega⟩, fun h1 => ⟨(h.none h1).1, fun k h2 h3 => ?_⟩, fun h1 => ?_, fun h1 k h2 h3 h4 => ?_, fun h1 => ?_⟩
 ·rcases Nat.lt_or_ge k i with h4 | h4
  ·exact (h.none h1).2 k h2 h4
  ·obtain rfl : k = i := by omega
   exact h0
 ·obtain ⟨a1, a2, a3, a4⟩ := h.some h1
  refine ⟨a1, by omega, a3, fun k h2 h3 h4 => ?_⟩; rcases Nat.lt_or_ge k i with h5 | h5
  ·exact a4 k h2 h5 h4
  ·obtain rfl : k = i := by omega
   exact absurd h0 h4
 ·rcases Nat.lt_or_ge k i with h5 | h5
  ·exact h.one h1 k h2 h5 h4
  ·obtain rfl : k = i := by omega
   exact h0
 ·obtain ⟨k, a1, a2, a3, a4⟩ := h.two h1
  exact ⟨k, a1, by omega, a3, a4⟩
theorem qGi.step {i left least : Nat} (h : qGi M top c i left least) (hi : i < M.length) (h0 : ent M i c ≠ 0) : qGi M top c (i + 1) (left + 1) (if left + 1 = 1 \/ (ent M i c).natAbs < (ent M least c).natAbs then i else least) := by
 have hl := h.le; have hk' : ∀ k, k < i + 1 -> k < i \/ k = i := fun k hk => by omega
 refine ⟨⟨by omega, by omega, by omega⟩, fun h1 => by omega, fun _ => ?_, fun h1 k h2 h3 h4 => ?_, fun h1 => ?_⟩
 ·by_cases e : left = 0
  ·rw [if_pos (by omega)]
   refine ⟨by omega, by omega, h0, fun k h2 h3 h4 => ?_⟩; rcases hk' k h3 with h5 | rfl
   ·exact absurd ((h.none e).2 k h2 h5) h4
   ·exact Nat.le_refl _
  ·obtain ⟨a1, a2, a3, a4⟩ := h.some (by omega)
   split
   ·next h5 =>
    refine ⟨by omega, by omega, h0, fun k h2 h3 h4 => ?_⟩; rcases hk' k h3 with h6 | rfl
    ·have := a4 k h2 h6 h4; omega
    ·exact Nat.le_refl _
   ·next h5 =>
    refine ⟨a1, by omega, a3, fun k h2 h3 h4 => ?_⟩; rcases hk' k h3 with h6 | rfl
    ·exact a4 k h2 h6 h4
    ·omega
 ·have e : left = 0 := by omega
  rw [if_pos (by omega)] at h4; rcases hk' k h3 with h5 | h5
  ·exact (h.none e).2 k h2 h5
  ·exact absurd h5 h4
 ·obtain ⟨a1, a2, a3, a4⟩ := h.some (by omega)
  split
  ·exact ⟨least, a1, by omega, by omega, a3⟩
  ·exact ⟨i, by omega, by omega, by omega, h0⟩
end
def qCt (M : List (List Int)) (top c : Nat) : Prop := ∃ k k', top <= k /\ k < k' /\ k' < M.length /\ ent M k c ≠ 0 /\ ent M k' c ≠ 0
def qLH (M : List (List Int)) (top c w : Nat) : Prop :=
 w = 9 \/ (w = 3 /\ ∀ k, top <= k -> k < M.length -> ent M k c < 0 -> ∃ k', top <= k' /\ k' < M.length /\ ent M k' c ≠ 0 /\ (ent M k' c).natAbs < (ent M k c).natAbs) \/ (w = 1 /\ ∀ k, top <= k -> k < M.length -> 0 <= ent M k c)
structure qGh (M : List (List Int)) (top c b b' : Nat) : Prop where
 five : top + 1 < M.length -> 5 * b <= b' /\ 5 <= b
 mono : b <= b'
 fin : ∀ r ∈ M, ∀ x ∈ r, Sz b' x
 nz : (∀ k, top <= k -> k < M.length -> ent M k c = 0) \/ M.length <= top + 1 -> ∀ r ∈ M, ∀ x ∈ r, Sz b x
 pot : qCt M top c -> ∃ X C D w : Nat, (∀ r ∈ M, ∀ x ∈ r, x.natAbs <= X) /\ (∀ k, top <= k -> (ent M k c).natAbs <= C) /\ (∃ k, top <= k /\ k < M.length /\ ent M k c ≠ 0 /\ (ent M k c).natAbs <= D) /\ X * C * C * D * w <= 9 * 2 ^ (4 * b) /\ qLH M top c w
theorem qFX {M : List (List Int)} {X : Nat} (h : ∀ r ∈ M, ∀ x ∈ r, x.natAbs <= X) (k j : Nat) : (ent M k j).natAbs <= X := by
 unfold ent vec; cases hk : M[k]? with
 | none => simp
 | some r =>
  simp only [Option.getD_some]; cases hj : r[j]? with
  | none => simp
  | some x => exact h r (List.mem_of_getElem? hk) x (List.mem_of_getElem? hj)
theorem qGh.start {M : List (List Int)} {top c b b' : Nat} (h : ∀ r ∈ M, ∀ x ∈ r, Sz b x) (h5 : top + 1 < M.length -> 5 * b <= b' /\ 5 <= b) (hm : b <= b') : qGh M top c b b' := by
 refine ⟨h5, hm, fun r hr x hx => (h r hr x hx).mono hm, fun _ => h, fun ⟨k, k', h1, h2, h3, h4, h6⟩ => ?_⟩; have hX : ∀ r ∈ M, ∀ x ∈ r, x.natAbs <= 2 ^ b := fun r hr x hx => by have := h r hr x hx; unfold Sz at this; omega
 refine ⟨2 ^ b, 2 ^ b, 2 ^ b, 9, hX, fun k _ => qFX hX k c, ⟨k, h1, by omega, h4, qFX hX k c⟩, ?_, .inl rfl⟩; have e : 2 ^ b * 2 ^ b * 2 ^ b * 2 ^ b = 2 ^ (4 * b) := by rw [<- Nat.pow_add, <- Nat.pow_add, <- Nat.pow_add]; congr 1; omega
 rw [e]; omega
theorem qE8 {M : List (List Int)} {a b : Nat} (ha : a < M.length) (hb : b < M.length) (k j : Nat) : ent (qAt M a b ha hb) k j = if k = b then ent M a j else if k = a then ent M b j else ent M k j := by
 rcases Nat.lt_or_ge k M.length with hk | hk
 ·have hk' : k < (qAt M a b ha hb).length := by rw [qAc]; exact hk
  unfold ent; rw [List.getElem?_eq_getElem hk', qAr k hk]; by_cases e1 : k = b
  ·rw [if_pos e1, if_pos e1, List.getElem?_eq_getElem ha]
  ·rw [if_neg e1, if_neg e1]
   by_cases e2 : k = a
   ·rw [if_pos e2, if_pos e2, List.getElem?_eq_getElem hb]
   ·rw [if_neg e2, if_neg e2, List.getElem?_eq_getElem hk]
 ·rw [if_neg (by omega), if_neg (by omega)]
  unfold ent; rw [List.getElem?_eq_none (by rw [qAc]; exact hk), List.getElem?_eq_none hk]
def sw (a b k : Nat) : Nat := if k = b then a else if k = a then b else k
theorem qCJ {M : List (List Int)} {a b : Nat} (ha : a < M.length) (hb : b < M.length) (k j : Nat) : ent (qAt M a b ha hb) k j = ent M (sw a b k) j := by
 rw [qE8]; unfold sw
 split
 ·rfl
 ·split <;> rfl
theorem qKO (a b k : Nat) : sw a b (sw a b k) = k := by unfold sw; grind
theorem qDm {a b k top : Nat} (ha : top <= a) (hb : top <= b) (hk : top <= k) : top <= sw a b k := by unfold sw; grind
theorem qB5 {a b k m : Nat} (ha : a < m) (hb : b < m) (hk : k < m) : sw a b k < m := by unfold sw; grind
theorem qCT {M : List (List Int)} {a b : Nat} (ha : a < M.length) (hb : b < M.length) (k j : Nat) : ent (qAt M a b ha hb) (sw a b k) j = ent M k j := by rw [qCJ, qKO]
theorem qCt.of_ne {M : List (List Int)} {top c k k' : Nat} (h1 : top <= k) (h2 : top <= k') (hne : k ≠ k') (h3 : k < M.length) (h4 : k' < M.length) (h5 : ent M k c ≠ 0) (h6 : ent M k' c ≠ 0) : qCt M top c := by
 rcases Nat.lt_or_gt_of_ne hne with h | h
 ·exact ⟨k, k', h1, h, h4, h5, h6⟩
 ·exact ⟨k', k, h2, h, h3, h6, h5⟩
theorem qFt {a b k k' : Nat} (h : sw a b k = sw a b k') : k = k' := by rw [<- qKO a b k, h, qKO]
theorem qCt.swap {M : List (List Int)} {top c a b : Nat} (ha : a < M.length) (hb : b < M.length) (h1 : top <= a) (h2 : top <= b) (h : qCt (qAt M a b ha hb) top c) : qCt M top c := by
 obtain ⟨k, k', g1, g2, g3, g4, g5⟩ := h; rw [qCJ] at g4 g5; rw [qAc] at g3; exact qCt.of_ne (qDm h1 h2 g1) (qDm h1 h2 (by omega)) (fun e => by have := qFt e; omega) (qB5 ha hb (by omega)) (qB5 ha hb g3) g4 g5
theorem qGh.swap {M : List (List Int)} {top c b b' a e : Nat} (h : qGh M top c b b') (ha : a < M.length) (he : e < M.length) (h1 : top <= a) (h2 : top <= e) : qGh (qAt M a e ha he) top c b b' := by
 refine ⟨by rw [qAc]; exact h.five, h.mono, fun r hr => h.fin r (qA5 r hr), fun h0 r hr => h.nz ?_ r (qA5 r hr), fun ht => ?_⟩
 ·rcases h0 with h0 | h0
  ·refine .inl (fun k g1 g2 => ?_)
   rw [<- qCT ha he]; exact h0 _ (qDm h1 h2 g1) (by rw [qAc]; exact qB5 ha he g2)
  ·exact .inr (by rw [qAc] at h0; exact h0)
 ·obtain ⟨X, C, D, w, p1, p2, ⟨k, p3, p4, p5, p6⟩, p7, p8⟩ := h.pot (qCt.swap ha he h1 h2 ht)
  refine ⟨X, C, D, w, fun r hr => p1 r (qA5 r hr), fun k hk => by rw [qCJ]; exact p2 _ (qDm h1 h2 hk), ⟨sw a e k, qDm h1 h2 p3, by rw [qAc]; exact qB5 ha he p4, by rw [qCT]; exact p5, by rw [qCT]; exact p6⟩, p7, ?_⟩; rcases p8 with p8 | ⟨q1, q2⟩ | ⟨q1, q2⟩
  ·exact .inl p8
  ·refine .inr (.inl ⟨q1, fun k g1 g2 g3 => ?_⟩)
   rw [qCJ] at g3; rw [qAc] at g2; obtain ⟨k', r1, r2, r3, r4⟩ := q2 _ (qDm h1 h2 g1) (qB5 ha he g2) g3; exact ⟨sw a e k', qDm h1 h2 r1, by rw [qAc]; exact qB5 ha he r2, by rw [qCT]; exact r3, by rw [qCT, qCJ]; exact r4⟩
  ·refine .inr (.inr ⟨q1, fun k g1 g2 => ?_⟩)
   rw [qCJ]; rw [qAc] at g2; exact q2 _ (qDm h1 h2 g1) (qB5 ha he g2)
theorem qKx {x p : Int} {C : Nat} (hx : x.natAbs <= C) : (x / p).natAbs <= C / p.natAbs + 1 := by
 have h1 := Int.natAbs_ediv x p; have h2 : x.natAbs / p.natAbs <= C / p.natAbs := Nat.div_le_div_right hx
 split at h1 <;> omega
theorem qLt {x p : Int} {C : Nat} (hx : x.natAbs <= C) (h0 : 0 <= x) : (x / p).natAbs <= C / p.natAbs := by
 have h1 := Int.natAbs_ediv x p; have h2 : x.natAbs / p.natAbs <= C / p.natAbs := Nat.div_le_div_right hx; rw [if_pos (.inl h0)] at h1; omega
theorem qLT {a q y : Int} {X Q : Nat} (ha : a.natAbs <= X) (hq : q.natAbs <= Q) (hy : y.natAbs <= X) : (a - q * y).natAbs <= X + Q * X := by
 have h1 : (q * y).natAbs <= Q * X := by rw [Int.natAbs_mul]; exact Nat.mul_le_mul hq hy
 omega
theorem qKW {X C D w l t : Nat} (ht : t * l <= C) (h1 : l <= C) (h2 : l <= D) : X * (3 * t) * l * l * l * w <= X * C * C * D * (3 * w) := by
 have e : X * (3 * t) * l * l * l * w = X * (t * l) * l * l * (3 * w) := by grind
 rw [e]; exact Nat.mul_le_mul_right _ (Nat.mul_le_mul (Nat.mul_le_mul (Nat.mul_le_mul_left _ ht) h1) h2)
theorem qKV {X C D l t : Nat} (ht : t * l <= C) (h2 : l <= D) : X * (2 * t) * l * l * (C / 2) <= X * C * C * D := by
 have e : X * (2 * t) * l * l * (C / 2) = X * (t * l) * (2 * (C / 2)) * l := by grind
 rw [e]; exact Nat.mul_le_mul (Nat.mul_le_mul (Nat.mul_le_mul_left _ ht) (by omega)) h2
theorem qKX {X C D w b : Nat} (hC : 1 <= C) (hD : 1 <= D) (hw : 1 <= w) (h : X * C * C * D * w <= 9 * 2 ^ (4 * b)) : X * (3 * C) <= 27 * 2 ^ (4 * b) := by
 have h1 : X * C * 1 * 1 * 1 <= X * C * C * D * w := Nat.mul_le_mul (Nat.mul_le_mul (Nat.mul_le_mul_left _ hC) hD) hw; have e : X * (3 * C) = 3 * (X * C * 1 * 1 * 1) := by grind
 omega
theorem qKU {b b' Y : Nat} (h5 : 5 <= b) (hb : 5 * b <= b') (h : Y <= 27 * 2 ^ (4 * b)) : Y < 2 ^ b' := by
 have h1 : 2 ^ (4 * b + 5) <= 2 ^ b' := Nat.pow_le_pow_right (by omega) (by omega); rw [Nat.pow_add] at h1; have h2 : 0 < 2 ^ (4 * b) := Nat.pow_pos (by omega); have e : (2 : Nat) ^ 5 = 32 := by decide
 rw [e] at h1; omega
section
variable {M M' : List (List Int)} {top c b b' n i : Nat}
theorem qDh.ent_ (hr : ∀ r ∈ M, r.length = n) (ht : top < M.length) (h : qDh M top c i M') (k : Nat) (h1 : top < k) (h2 : k < i) (h3 : k < M.length) (j : Nat) : ent M' k j = ent M k j - (ent M k c / ent M top c) * ent M top j := by
 have h3' : k < M'.length := by rw [h.len]; exact h3
 have h4 := h.done k h3 h3' h1 h2; unfold ent at *; rw [List.getElem?_eq_getElem h3', Option.getD_some, h4, List.getElem?_eq_getElem h3, List.getElem?_eq_getElem ht, Option.getD_some, Option.getD_some]; exact qDF (by rw [hr _ (List.getElem_mem _), hr _ (List.getElem_mem _)]) j
theorem qDh.ent_same (h : qDh M top c i M') (k : Nat) (h1 : k <= top \/ i <= k) (j : Nat) : ent M' k j = ent M k j := by
 unfold ent; rcases Nat.lt_or_ge k M.length with h2 | h2
 ·have h3 : k < M'.length := by rw [h.len]; exact h2
  rw [List.getElem?_eq_getElem h3, List.getElem?_eq_getElem h2, h.same k h2 h3 h1]
 ·rw [List.getElem?_eq_none h2, List.getElem?_eq_none (by rw [h.len]; exact h2)]
theorem qDh.rest (hr : ∀ r ∈ M, r.length = n) (ht : top < M.length) (h : qDh M top c i M') (k : Nat) (h1 : top < k) (h2 : k < i) (h3 : k < M.length) : ent M' k c = ent M k c % ent M top c := by
 rw [h.ent_ hr ht k h1 h2 h3, Int.emod_def, Int.mul_comm]
theorem qLW {X : Nat} {r : List Int} (h : ∀ j, (vec r j).natAbs <= X) : ∀ x ∈ r, x.natAbs <= X := by
 intro x hx; obtain ⟨j, hj, rfl⟩ := List.mem_iff_getElem.1 hx; rw [<- qAj hj]; exact h j
theorem qLp {X : Nat} (h : ∀ k j, (ent M k j).natAbs <= X) : ∀ r ∈ M, ∀ x ∈ r, x.natAbs <= X := by
 intro r hr; obtain ⟨k, hk, rfl⟩ := List.mem_iff_getElem.1 hr; refine qLW (fun j => ?_); have := h k j; simpa [ent, hk] using this
theorem qDh.le {X Q : Nat} (hr : ∀ r ∈ M, r.length = n) (ht : top < M.length) (h : qDh M top c i M') (hX : ∀ r ∈ M, ∀ x ∈ r, x.natAbs <= X) (hQ : ∀ k, top < k -> k < M.length -> (ent M k c / ent M top c).natAbs <= Q) : ∀ r ∈ M', ∀ x ∈ r, x.natAbs <= X + Q * X := by
 refine qLp (fun k j => ?_); rcases Nat.lt_or_ge k M.length with h3 | h3
 ·by_cases e : top < k /\ k < i
  ·rw [h.ent_ hr ht k e.1 e.2 h3]
   exact qLT (qFX hX k j) (hQ k e.1 h3) (qFX hX top j)
  ·rw [h.ent_same k (by omega)]
   have := qFX hX k j; omega
 ·have : ent M' k j = 0 := by
   unfold ent; rw [List.getElem?_eq_none (by rw [h.len]; exact h3)]; simp [vec]
  rw [this]; simp
theorem qGh.red_fin (h : qGh M top c b b') (hr : ∀ r ∈ M, r.length = n) (ht : top < M.length) (hp : ent M top c ≠ 0) (hl : ∀ k, top <= k -> k < M.length -> ent M k c ≠ 0 -> (ent M top c).natAbs <= (ent M k c).natAbs) (h2 : qCt M top c) (hd : qDh M top c i M') : ∀ r ∈ M', ∀ x ∈ r, Sz b' x := by
 obtain ⟨X, C, D, w, p1, p2, ⟨k, p3, p4, p5, p6⟩, p7, p8⟩ := h.pot h2; have ht2 : top + 1 < M.length := by obtain ⟨k, k', a1, a2, a3, _, _⟩ := h2; omega
 obtain ⟨h5, h6⟩ := h.five ht2; have hlC : (ent M top c).natAbs <= C := p2 top (Nat.le_refl _); have hl0 : 0 < (ent M top c).natAbs := by omega
 have hw : 1 <= w := by rcases p8 with p8 | ⟨p8, _⟩ | ⟨p8, _⟩ <;> omega
 have hD : 1 <= D := by omega
 have hE := qKX (by omega) hD hw p7; have hQ : ∀ k, top < k -> k < M.length -> (ent M k c / ent M top c).natAbs <= C / (ent M top c).natAbs + 1 := fun k h1 _ => qKx (p2 k (by omega)); have hle := hd.le hr ht p1 hQ; have ht1 : C / (ent M top c).natAbs <= C := Nat.div_le_self _ _; intro r hrm x hx; have h8 := hle r hrm x hx; have h9 : X + (C / (ent M top c).natAbs + 1) * X <= X * (3 * C) := by
  have e1 : X + (C / (ent M top c).natAbs + 1) * X = X * (C / (ent M top c).natAbs + 2) := by grind
  rw [e1]; exact Nat.mul_le_mul_left _ (by omega)
 unfold Sz; exact qKU h6 h5 (by omega)
theorem qDh.two (hr : ∀ r ∈ M, r.length = n) (h : qDh M top c M.length M') (h2 : qCt M' top c) (ht : top < M.length) : ∃ k, top < k /\ k < M.length /\ ent M' k c ≠ 0 /\ ent M' k c = ent M k c % ent M top c /\ ent M k c ≠ 0 := by
 obtain ⟨k, k', a1, a2, a3, a4, a5⟩ := h2; rw [h.len] at a3; have e := h.rest hr ht k' (by omega) a3 a3; refine ⟨k', by omega, a3, a5, e, fun e0 => a5 ?_⟩; rw [e, e0, Int.zero_emod]
theorem qGh.red (h : qGh M top c b b') (hr : ∀ r ∈ M, r.length = n) (ht : top < M.length) (hp : ent M top c ≠ 0) (hl : ∀ k, top <= k -> k < M.length -> ent M k c ≠ 0 -> (ent M top c).natAbs <= (ent M k c).natAbs) (h2 : qCt M top c) (hd : qDh M top c M.length M') :
 qGh M' top c b b' /\ ent M' top c = ent M top c /\ (qCt M' top c -> ∃ k, top <= k /\ k < M'.length /\ ent M' k c ≠ 0 /\ (ent M' k c).natAbs < (ent M top c).natAbs) := by
 have hpm : ent M' top c = ent M top c := hd.ent_same top (.inl (Nat.le_refl _)) c; have hrest : ∀ k, top < k -> k < M.length -> ent M' k c = ent M k c % ent M top c := fun k a1 a2 => hd.rest hr ht k a1 a2 a2; have hrl : ∀ k, top < k -> k < M.length -> 0 <= ent M' k c /\ (ent M' k c).natAbs < (ent M top c).natAbs := fun k a1 a2 => by
  rw [hrest k a1 a2]; have h1 := Int.emod_nonneg (ent M k c) hp; have h3 := Int.emod_lt (ent M k c) hp; omega
 refine ⟨⟨by rw [hd.len]; exact h.five, h.mono, h.red_fin hr ht hp hl h2 hd, fun h0 => ?_, fun h3 => ?_⟩, hpm, fun h3 => ?_⟩
 ·exfalso
  rcases h0 with h0 | h0
  ·exact hp (by rw [<- hpm]; exact h0 top (Nat.le_refl _) (by rw [hd.len]; exact ht))
  ·obtain ⟨k, k', a1, a2, a3, _, _⟩ := h2
   rw [hd.len] at h0; omega
 ·obtain ⟨X, C, D, w, p1, p2, ⟨k0, p3, p4, p5, p6⟩, p7, p8⟩ := h.pot h2
  have hlC : (ent M top c).natAbs <= C := p2 top (Nat.le_refl _); have hlD : (ent M top c).natAbs <= D := Nat.le_trans (hl k0 p3 p4 p5) p6; have hl0 : 0 < (ent M top c).natAbs := by omega
  have htl : C / (ent M top c).natAbs * (ent M top c).natAbs <= C := Nat.div_mul_le_self _ _; have ht1 : 1 <= C / (ent M top c).natAbs := (Nat.one_le_div_iff hl0).2 hlC; obtain ⟨k1, q1, q2, q3, q4, q5⟩ := hd.two hr h3 ht; have hcol : ∀ k, top <= k -> (ent M' k c).natAbs <= (ent M top c).natAbs := fun k hk => by
   rcases Nat.lt_or_ge k M.length with a2 | a2
   ·rcases Nat.lt_or_ge top k with a1 | a1
    ·have := (hrl k a1 a2).2; omega
    ·obtain rfl : k = top := by omega
     rw [hpm]; exact Nat.le_refl _
   ·have : ent M' k c = 0 := by
     unfold ent; rw [List.getElem?_eq_none (by rw [hd.len]; exact a2)]; simp [vec]
    rw [this]; simp
  -- the general round
  have gen : ∀ w', w = 3 * w' -> qLH M' top c w' -> ∃ X C D w : Nat, (∀ r ∈ M', ∀ x ∈ r, x.natAbs <= X) /\ (∀ k, top <= k -> (ent M' k c).natAbs <= C) /\ (∃ k, top <= k /\ k < M'.length /\ ent M' k c ≠ 0 /\ (ent M' k c).natAbs <= D) /\ X * C * C * D * w <= 9 * 2 ^ (4 * b) /\ qLH M' top c w := by
   intro w' hw' hph; refine ⟨X * (3 * (C / (ent M top c).natAbs)), (ent M top c).natAbs, (ent M top c).natAbs, w', fun r hrm x hx => ?_, hcol, ⟨k1, by omega, by rw [hd.len]; exact q2, q3, hcol k1 (by omega)⟩, ?_, hph⟩
   ·have h8 := hd.le hr ht p1 (fun k a1 _ => qKx (p2 k (by omega))) r hrm x hx
    have e1 : X + (C / (ent M top c).natAbs + 1) * X = X * (C / (ent M top c).natAbs + 2) := by grind
    rw [e1] at h8; exact Nat.le_trans h8 (Nat.mul_le_mul_left _ (by omega))
   ·refine Nat.le_trans (qKW htl hlC hlD) ?_
    rw [<- hw']; exact p7
  rcases p8 with rfl | ⟨rfl, p8⟩ | ⟨rfl, p8⟩
  ·refine gen 3 rfl (.inr (.inl ⟨rfl, fun k a1 a2 a3 => ?_⟩))
   rw [hd.len] at a2; rcases Nat.lt_or_ge top k with a4 | a4
   ·have := (hrl k a4 a2).1; omega
   ·obtain rfl : k = top := by omega
    exact ⟨k1, by omega, by rw [hd.len]; exact q2, q3, by rw [hpm]; exact (hrl k1 q1 q2).2⟩
  ·refine gen 1 rfl (.inr (.inr ⟨rfl, fun k a1 a2 => ?_⟩))
   rw [hd.len] at a2; rcases Nat.lt_or_ge top k with a4 | a4
   ·exact (hrl k a4 a2).1
   ·obtain rfl : k = top := by omega
    rw [hpm]; rcases Int.lt_or_le (ent M k c) 0 with a5 | a5
    ·obtain ⟨k', r1, r2, r3, r4⟩ := p8 k (Nat.le_refl _) ht a5
     have := hl k' r1 r2 r3; omega
    ·exact a5
  ·refine ⟨X * (2 * (C / (ent M top c).natAbs)), (ent M top c).natAbs, C / 2, 1, fun r hrm x hx => ?_, hcol, ⟨k1, by omega, by rw [hd.len]; exact q2, q3, ?_⟩, ?_, .inr (.inr ⟨rfl, fun k a1 a2 => ?_⟩)⟩
   ·have h8 := hd.le hr ht p1 (fun k a1 a2 => qLt (p2 k (by omega)) (p8 k (by omega) a2)) r hrm x hx
    have e1 : X + C / (ent M top c).natAbs * X = X * (C / (ent M top c).natAbs + 1) := by grind
    rw [e1] at h8; exact Nat.le_trans h8 (Nat.mul_le_mul_left _ (by omega))
   ·have g1 := p8 k1 (by omega) q2
    have g2 := p8 top (Nat.le_refl _) ht; have g3 := hl k1 (by omega) q2 q5; have g4 := (hrl k1 q1 q2); have g5 := p2 k1 (by omega); have g6 : ent M k1 c = ent M k1 c % ent M top c + ent M top c * (ent M k1 c / ent M top c) := (Int.emod_add_mul_ediv _ _).symm; have g7 : 1 <= ent M k1 c / ent M top c := Int.le_ediv_of_mul_le (by omega) (by omega); have g8 : ent M top c * 1 <= ent M top c * (ent M k1 c / ent M top c) := Int.mul_le_mul_of_nonneg_left g7 g2; rw [q4] at g4 ⊢; omega
   ·rw [Nat.mul_one]
    refine Nat.le_trans (qKV htl hlD) ?_; rw [Nat.mul_one] at p7; exact p7
   ·rw [hd.len] at a2
    rcases Nat.lt_or_ge top k with a4 | a4
    ·exact (hrl k a4 a2).1
    ·obtain rfl : k = top := by omega
     rw [hpm]; exact p8 k (Nat.le_refl _) ht
 ·obtain ⟨k1, q1, q2, q3, q4, q5⟩ := hd.two hr h3 ht
  exact ⟨k1, by omega, by rw [hd.len]; exact q2, q3, (hrl k1 q1 q2).2⟩
end
open Go.RowKit
theorem qAm.of_own {w : World} {base : Nat} {a : Option Addr} {c : Nat} {r : List Int} (h : w.ownsRow base 3 1 (.slice a r.length c) r.length (r.map zv)) : qAm w (.slice a r.length c) r := by
 rcases id h.2 with ⟨hv, h0⟩ | ⟨g, cap, cur, hv, _, hg, h1, h2, _⟩
 ·injection hv with e1 e2 e3
  subst e1 e3; exact ⟨none, 0, rfl, by omega, by omega, fun h9 => by omega⟩
 ·injection hv with e1 e2 e3
  subst e1 e3; unfold maxLen at h2; refine ⟨_, c, rfl, h1, by omega, fun _ => ⟨g, rfl, (Array.getElem?_eq_some_iff.1 hg).1, fun j hj => ⟨_, rfl, rfl, fun i hi => ?_⟩⟩⟩; obtain rfl : i = 0 := by omega
  rw [Nat.mul_one, Nat.add_zero, h.cellAt j (by omega)]; simp [hj, zv]
abbrev Yw := Option Addr × Nat
def yV (n : Nat) (x : Yw) : Value := .slice x.1 n x.2
structure YMt (w : World) (B : Nat) (v : Value) (l : List Yw) (n : Nat) (M : List (List Int)) : Prop where
 own : w.ownsRow B 22 1 v l.length (l.map (yV n))
 len : M.length = l.length
 row : ∀ i (h : i < l.length) (h' : i < M.length), w.ownsRow B 3 1 (yV n l[i]) n (M[i].map zv) /\ M[i].length = n
 nodup : ∀ i j (h : i < l.length) (h' : j < l.length) g, i ≠ j -> (yV n l[i]).ownBlock = some g -> (yV n l[j]).ownBlock ≠ some g
section
variable {w w' : World} {B n : Nat} {v : Value} {l : List Yw} {M : List (List Int)}
theorem YMt.only {S : Nat -> Prop} (h : YMt w B v l n M) (ho : qAb S w w') (hv : ∀ g, v.ownBlock = some g -> ¬ S g) (hr : ∀ i (hi : i < l.length) g, (yV n l[i]).ownBlock = some g -> ¬ S g) : YMt w' B v l n M :=
 ⟨ho.own h.own hv, h.len, fun i hi hi' => ⟨ho.own (h.row i hi hi').1 (hr i hi), (h.row i hi hi').2⟩, h.nodup⟩
theorem YMt.blw (h : YMt w B v l n M) (hb : Below w.heap.size w w') : YMt w' B v l n M := h.only (S := fun _ => False) (qAb.of_below hb) (fun _ _ h => h) (fun _ _ _ _ h => h)
instance : Mv w w' (YMt w B v l n M) (YMt w' B v l n M) := ⟨fun hb h => YMt.blw h hb⟩
theorem YMt.mat (h : YMt w B v l n M) : qAD w v M := by
 refine qAh.of_own (css := l.map (fun x => [yV n x])) (base := B) (e := 22) (by rw [qBq, List.length_map]; exact h.own) (fun cs h => by obtain ⟨x, _, rfl⟩ := List.mem_map.1 h; rfl) (by rw [List.length_map]; exact h.len.symm) (fun j h1 h2 => ?_); have h3 : j < l.length := by rw [<- h.len]; exact h1
 obtain ⟨k1, k2⟩ := h.row j h3 h1; rw [List.getElem_map]; refine ⟨_, rfl, ?_⟩; have := qAm.of_own (r := M[j]) (a := l[j].1) (c := l[j].2) (by rw [k2]; exact k1)
 rwa [k2] at this
theorem qHk {w : World} {B B' n n' k k' g : Nat} {t t' : TypeId} {v v' : Value} {xs xs' : List Value} (h : w.ownsRow B t k v n xs) (h' : w.ownsRow B' t' k' v' n' xs') (hv : v.ownBlock = some g) (hv' : v'.ownBlock = some g) : t = t' := by
 rcases h.2 with ⟨e, _⟩ | ⟨g1, cap, cur, e, _, hg, _⟩
 ·rw [e] at hv; cases hv
 ·rcases h'.2 with ⟨e', _⟩ | ⟨g2, cap', cur', e', _, hg', _⟩
  ·rw [e'] at hv'; cases hv'
  ·rw [e] at hv
   rw [e'] at hv'; simp only [Value.ownBlock, Option.some.injEq] at hv hv'; subst hv hv'; rw [hg] at hg'; injection hg' with hg'; injection hg' with _ h2 _
theorem YMt.apart (h : YMt w B v l n M) (i : Nat) (hi : i < l.length) (g : Nat) (h1 : (yV n l[i]).ownBlock = some g) : v.ownBlock ≠ some g := fun h2 => by
 have := qHk (h.row i hi (by rw [h.len]; exact hi)).1 h.own h1 h2; exact absurd this (by decide)
theorem YMt.some_ (h : YMt w B v l n M) (hn : 0 < n) (i : Nat) (hi : i < l.length) : ∃ g, l[i].1 = some ⟨g, 0, none⟩ /\ B <= g /\ g < w.heap.size /\ n <= l[i].2 := by
 rcases (h.row i hi (by rw [h.len]; exact hi)).1.2 with ⟨e, _⟩ | ⟨g, cap, cur, e, hb, hg, hnc, _⟩
 ·injection e with _ e _; omega
 ·injection e with e1 e2 e3
  exact ⟨g, e1, hb, (Array.getElem?_eq_some_iff.1 hg).1, by rw [e3]; exact hnc⟩
theorem YMt.ocell (h : YMt w B v l n M) {R c : Nat} (hv : v = .slice (some ⟨R, 0, none⟩) l.length c) (i : Nat) (hi : i < l.length) : w.cell? ⟨R, i, none⟩ = some (.slice l[i].1 n l[i].2) := by
 have h1 := h.own; rw [hv] at h1; rw [h1.cellAt i (by omega), List.getElem?_map, List.getElem?_eq_getElem hi]; rfl
theorem YMt.cell (h : YMt w B v l n M) {g : Nat} (i : Nat) (hi : i < l.length) (hg : l[i].1 = some ⟨g, 0, none⟩) (j : Nat) (hj : j < n) (hi' : i < M.length) (hj' : j < M[i].length) : w.cell? ⟨g, j, none⟩ = some (.int .i64 M[i][j]) := by
 have h1 := (h.row i hi hi').1; rw [yV, hg] at h1; rw [h1.cellAt j (by omega)]; simp [hj', zv]
theorem YMt.frozen (h : YMt w B v l n M) {g : Nat} (i : Nat) (hi : i < l.length) (hg : l[i].1 = some ⟨g, 0, none⟩) (j : Nat) : w.frozen? ⟨g, j, none⟩ = false := by
 have h1 := (h.row i hi (by rw [h.len]; exact hi)).1; rw [yV, hg] at h1; exact h1.frozenAt j
theorem YMt.put (h : YMt w B v l n M) {g i j : Nat} (hi : i < l.length) (hi' : i < M.length) (hg : l[i].1 = some ⟨g, 0, none⟩) (z : Int) : YMt (w.setCell ⟨g, j, none⟩ (.int .i64 z)) B v l n (M.set i (M[i].set j z)) := by
 have ho : qAb (fun b => b = g) w (w.setCell ⟨g, j, none⟩ (.int .i64 z)) := (qAb.refl (fun b => b = g) w).set (p := ⟨g, j, none⟩) rfl _; have hgi : (yV n l[i]).ownBlock = some g := by rw [yV, hg]; rfl
 refine ⟨ho.own h.own (fun b hb e => h.apart i hi g hgi (by rw [hb, e])), by rw [List.length_set]; exact h.len, fun k hk hk' => ?_, h.nodup⟩; have hk2 : k < M.length := by simpa using hk'
 by_cases e : k = i
 ·subst e
  obtain ⟨h1, h2⟩ := h.row k hk hk2; rw [List.getElem_set_self]; refine ⟨?_, by rw [List.length_set]; exact h2⟩; rw [yV, hg] at h1 ⊢; have := (h1.stored j (.int .i64 z)).1
  rwa [show (Value.int .i64 z) = zv z from rfl, <- List.map_set] at this
 ·rw [List.getElem_set_ne (Ne.symm e)]
  exact ⟨ho.own (h.row k hk hk2).1 (fun b hb e2 => h.nodup k i hk hi b e hb (by rw [hgi, e2])), (h.row k hk hk2).2⟩
theorem YMt.swap {R c : Nat} (h : YMt w B (.slice (some ⟨R, 0, none⟩) l.length c) l n M) {a b : Nat} (ha : a < l.length) (hb : b < l.length) (ha' : a < M.length) (hb' : b < M.length) :
 YMt ((w.setCell ⟨R, a, none⟩ (.slice l[b].1 n l[b].2)).setCell ⟨R, b, none⟩ (.slice l[a].1 n l[a].2)) B (.slice (some ⟨R, 0, none⟩) l.length c) (qAt l a b ha hb) n (qAt M a b ha' hb') := by
 have ho : qAb (fun g => g = R) w ((w.setCell ⟨R, a, none⟩ (.slice l[b].1 n l[b].2)).setCell ⟨R, b, none⟩ (.slice l[a].1 n l[a].2)) := ((qAb.refl (fun g => g = R) w).set (p := ⟨R, a, none⟩) rfl _).set (p := ⟨R, b, none⟩) rfl _; have inj : ∀ i (hi : i < l.length), (qAt l a b ha hb)[i]'(by rw [qAc]; exact hi) = l[sw a b i]'(qB5 ha hb hi) := fun i hi => by
  rw [qAr i hi]; unfold sw
  split
  ·rfl
  ·split <;> rfl
 have injM : ∀ i (hi : i < M.length), (qAt M a b ha' hb')[i]'(by rw [qAc]; exact hi) = M[sw a b i]'(qB5 ha' hb' hi) := fun i hi => by
  rw [qAr i hi]; unfold sw
  split
  ·rfl
  ·split <;> rfl
 refine ⟨?_, by rw [qAc, qAc, h.len], fun i hi hi' => ?_, fun i j hi hj g hij => ?_⟩
 ·have h1 := ((h.own.stored a (.slice l[b].1 n l[b].2)).1.stored b (.slice l[a].1 n l[a].2)).1
  rw [qAc]; have e : (qAt l a b ha hb).map (yV n) = ((l.map (yV n)).set a (.slice l[b].1 n l[b].2)).set b (.slice l[a].1 n l[a].2) := by unfold qAt; rw [List.map_set, List.map_set]; rfl
  rw [e]; exact h1
 ·rw [qAc] at hi hi'
  simp only [inj i hi, injM i hi']; obtain ⟨h1, h2⟩ := h.row _ (qB5 ha hb hi) (qB5 ha' hb' hi'); exact ⟨ho.own h1 (fun g hg e => h.apart _ (qB5 ha hb hi) g hg (by rw [e]; rfl)), h2⟩
 ·rw [qAc] at hi hj
  simp only [inj i hi, inj j hj]; exact h.nodup _ _ _ _ g (fun e => hij (qFt e))
end
def qDB (m : List (List Int)) (n : Nat) (a k : Int) : List (List Int) :=
 if 0 < m.length /\ 0 < n then m.set (qBk a m.length).toNat ((m[(qBk a m.length).toNat]?.getD []).set (qBk (a.tdiv 5) n).toNat k) else m
theorem qEv {m : List (List Int)} {n : Nat} {a k : Int} : (qDB m n a k).length = m.length := by unfold qDB; split <;> simp
theorem qH0 {m : List (List Int)} {n : Nat} {a k : Int} {P : Int -> Prop} (h : ∀ r ∈ m, ∀ x ∈ r, P x) (hk : P k) : ∀ r ∈ qDB m n a k, ∀ x ∈ r, P x := by
 unfold qDB
 split
 ·next h0 =>
  intro r hr x hx; have hra := qBf a m.length (by omega); rcases List.mem_or_eq_of_mem_set hr with h1 | h1
  ·exact h r h1 x hx
  ·rw [h1, List.getElem?_eq_getElem (by omega)] at hx
   rcases List.mem_or_eq_of_mem_set hx with h2 | h2
   ·exact h _ (List.getElem_mem _) x h2
   ·rw [h2]; exact hk
 ·exact h
end Go.Proofs.Ytlmbebbdamgfpaa
