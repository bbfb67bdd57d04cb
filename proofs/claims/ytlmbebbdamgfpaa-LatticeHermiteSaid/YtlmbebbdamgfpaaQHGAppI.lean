/- append of a list of numbers that may be nil; a block that begins with a list of numbers. -/
import Derived.Test.YtlmbebbdamgfpaaQHWDivF
import Derived.Test.YtlmbebbdamgfpaaQHLSmall
import Derived.Test.YtlmbebbdamgfpaaQHLawLMany
import Derived.Deep.CutRange
import Derived.Test.YtlmbebbdamgfpaaQHLMat
import Derived.Laws.AppendOwnNone
set_option linter.unusedVariables false
set_option linter.unusedSimpArgs false
set_option maxHeartbeats 8000000
set_option maxRecDepth 100000
namespace Go.Proofs.Ytlmbebbdamgfpaa
open Go.RowKit
theorem qJi (x m : Int) (w : World) (h1 : -9223372036854775808 <= x) (h2 : x <= 9223372036854775807) (hm : 0 <= m) (hm2 : m <= 2305843009213693952) :
 Calls Try.prog 24 #[.int .i64 x, .int .i64 m] w fun e w' => (∃ z, e = .returned (.int .i64 z) /\ -m <= z /\ z <= m) /\ w' = w := by
 have HA := hZ (qBn x (2 * m + 1) w h1 h2 (by omega) (by omega)); have HR := qAW x (2 * m + 1) (by omega); obtain ⟨a, ha⟩ := eX (qA9 x (2 * m + 1)); rw [ha] at HA HR; clear ha
 go_enter Try.func24, Try.ntmps24
 go_wp2_with fail
 refine HA.o.mono ?_; rintro e w9 ⟨rfl, rfl⟩
 go_wp2_with fail
 go_ret; exact ⟨⟨a - m, rfl, by omega, by omega⟩, rfl⟩
structure qLv (m : List (List Int)) (L : Int) : Prop where
 rows : m.length <= 5
 cols : ∃ c, c <= 5 /\ ∀ r ∈ m, r.length = c
 ent : ∀ r ∈ m, ∀ x ∈ r, -(3 * L) <= x /\ x <= 3 * L
theorem qHD {w : World} {base n cp k : Nat} {ga : Option Addr} {xs : List Value} (h : w.ownsRow base 22 1 (.slice ga n cp) n xs) (hn : k < n) : ∃ g, ga = some ⟨g, 0, none⟩ /\ g < w.heap.size /\ w.cell? ⟨g, k, none⟩ = xs[k]? := by
 rcases h.2 with ⟨hv, _⟩ | ⟨g, cap, cur, hv, _, hg, _⟩
 ·injection hv with _ e _; omega
 ·injection hv with e1 _ _
  subst e1; exact ⟨g, rfl, (Array.getElem?_eq_some_iff.1 hg).1, h.cellAt k (by omega)⟩
theorem qDz (v : Value) (zs : List Int) (len : Nat) (L : Int) (w0 : World) (h : qB9 w0 v zs len) (hL : 4 <= L) (hL2 : L <= 1099511627776) :
 Calls Try.prog 11 #[v, .int .i64 L] w0 fun e w' => ∃ m u, e = .returned u /\ qAA w' u m /\ qLv m L /\ Below w0.heap.size w0 w' := by
 have H := hZ h; have HB := hZ (Below.refl w0.heap.size w0); have HP1 := hZ (qD0 v zs len 0 6 w0 h (by omega) (by omega) (by omega)); have HP2 := hZ (qD0 v zs len 1 6 w0 h (by omega) (by omega) (by omega)); have R1 := qCq zs len 0 6 (by omega); have R2 := qCq zs len 1 6 (by omega); obtain ⟨r, hr⟩ := Int.eq_ofNat_of_zero_le R1.1; obtain ⟨c, hc⟩ := Int.eq_ofNat_of_zero_le R2.1; rw [hr] at HP1 R1; rw [hc] at HP2 R2; have hr5 : r <= 5 := by omega
 have hc5 : c <= 5 := by omega
 clear h R1 R2 hr hc
 go_enter Try.func11, Try.ntmps11
 go_wp2_with fail
 refine HP1.o.mono ?_; rintro e w9 ⟨rfl, hw9⟩; replace hw9 := hw9.symm; subst hw9; clear HP1
 go_wp2_with fail
 refine HP2.o.mono ?_; rintro e w9 ⟨rfl, hw9⟩; replace hw9 := hw9.symm; subst hw9; clear HP2
 go_wp2_with fail
 have HO : Hid (w0.ownsRow w0.heap.size 22 1 (.slice none 0 0) ([] : List (Nat × Nat)).length (([] : List (Nat × Nat)).map rwI)) := hZ (World.ownsRow_nil _ _ _ _)
 go_loopw [8, 7] (fun i vm wr => ∃ (j cp : Nat) (ga : Option Addr) (l : List (Nat × Nat)) (M : List (List Int)), j <= r /\ i = .int .i64 j /\ vm = .slice ga l.length cp /\ l.length <= cp /\ cp <= 9223372036854775807 /\ Hid (l.length = j) /\ Hid (∀ t (h : t < M.length), M[t].length = c /\ ∀ x ∈ M[t], -(if t < 2 then L else 3 * L) <= x /\ x <= (if t < 2 then L else 3 * L)) /\ Hid (wr.ownsRow w0.heap.size 22 1 (.slice ga l.length cp) l.length (l.map rwI)) /\ Hid (qAI wr l M) /\ Hid (Below w0.heap.size w0 wr)) (fun i _ _ => r - (intOf i).toNat)
 case atStart => exact ⟨0, 0, none, [], [], by omega, rfl, rfl, by simp, by omega, hZ rfl, hZ (fun t h => by simp at h), HO, hZ (qAI.nil _), HB⟩
 case round =>
  clear HO HB; obtain ⟨j, cp, ga, l, M, hj, rfl, rfl, hcp, hcp2, HL, HR, HO, II, HB⟩ := hrel; obtain ⟨w1, rfl⟩ := eY wr; by_cases hlt : j < r
  ·skip
   have j1 : (0 : Int) <= (j : Int) := by omega
   have j3 : (j : Int) < (r : Int) := by omega
   have HSz := hZ HB.o.size; have HIl : Hid (∀ i (h : i < l.length), l[i].1 < w1.heap.size) := hZ II.o.lt
   go_wp2_with (at_make; refine qAQ rfl rfl (c) rfl rfl rfl rfl (by omega) ?_)
   intro w2 h_9 hB hlt9; obtain ⟨g, hb⟩ := eX w1.heap.size; rw [hb] at h_9 ⊢; have Oc' := hZ h_9; have hge_g : Hid (w1.heap.size <= g) := hZ (Nat.le_of_eq hb); have hlt_g : Hid (g < w2.heap.size) := hZ (by rw [<- hb]; exact hlt9); have hB9 := hB; clear h_9 hb hlt9; replace II := II.b hB; replace HB := bT HB hB; clear hB; have Oc := Oc'; clear Oc'; replace HO := hZ (qDx hB9 HO.o); clear hB9; have HGg : Hid (w0.heap.size <= g /\ (∀ i (h : i < l.length), l[i].1 ≠ g)) := hZ ⟨Nat.le_trans HSz.o hge_g.o, fun i hi => by have := HIl.o i hi; have := hge_g.o; omega⟩; clear hge_g hlt_g HSz HIl
   go_wp2_with fail
   obtain ⟨w4, hw4⟩ : ∃ w' : World, w' = w2 := ⟨_, rfl⟩; have HP3 := hZ (qD0 v zs len (2 + j) 60 w2 (H.o.below (Nat.le_refl _) HB.o) (by omega) (by omega) (by omega)); have R3 := qCq zs len (2 + j) 60 (by omega); obtain ⟨how, hhow⟩ := eX (qDT zs len (2 + j) 60); rw [hhow] at HP3 R3; clear hhow hw4; rw [show ((2 + j : Nat) : Int) = 2 + (j : Int) by omega] at HP3; refine HP3.o.mono ?_; rintro e w9 ⟨rfl, hw9⟩; replace hw9 := hw9.symm; subst hw9; clear HP3
   go_wp2_with fail
   obtain ⟨Bd, hBd⟩ := eX ((if j < 2 then L else 3 * L)); have HBd : Hid (L <= Bd /\ (2 <= j -> Bd = 3 * L)) := hZ ⟨by rw [<- hBd]; split <;> omega, fun h => by rw [<- hBd, if_neg (by omega)]⟩; have HBe := hZ hBd; clear hBd; have Oc0 : Hid (qAE w2 g 3 ((List.replicate c (0 : Int)).map zv)) := hZ (by have h9 := Oc.o; simpa using h9); clear Oc
   go_loopw [11] (fun i wr => ∃ (k : Nat) (cs : List Int), k <= c /\ i = .int .i64 k /\ Hid (cs.length = c /\ ∀ x ∈ cs, -Bd <= x /\ x <= Bd) /\ Hid (qAE wr g 3 (cs.map zv)) /\ Hid (wr.ownsRow w0.heap.size 22 1 (.slice ga l.length cp) l.length (l.map rwI)) /\ Hid (qAI wr l M) /\ Hid (Below w0.heap.size w0 wr)) (fun i _ => c - (intOf i).toNat)
   case atStart => exact ⟨0, List.replicate c 0, by omega, rfl, hZ ⟨by simp, fun x hx => by rw [(List.mem_replicate.1 hx).2]; have := HBd.o.1; omega⟩, Oc0, HO, II, HB⟩
   case round =>
    clear Oc0 HO II HB; obtain ⟨k, cs, hk, rfl, HC, Oc, HO, II, HB⟩ := hrel; obtain ⟨w2, rfl⟩ := eY wr; by_cases hkc : k < c
    ·skip
     have k1 : (0 : Int) <= (k : Int) := by omega
     have k2 : (k : Int) < (c : Int) := by omega
     have HP4 := hZ (qD0 v zs len (7 + 5 * j + k) 1000000 w2 (H.o.below (Nat.le_refl _) HB.o) (by omega) (by omega) (by omega)); have R4 := qCq zs len (7 + 5 * j + k) 1000000 (by omega); obtain ⟨n, hn⟩ := eX (qDT zs len (7 + 5 * j + k) 1000000); rw [hn] at HP4 R4; clear hn; rw [show ((7 + 5 * j + k : Nat) : Int) = 7 + 5 * (j : Int) + (k : Int) by omega] at HP4
     go_wp2_with fail
     refine HP4.o.mono ?_; rintro e w9 ⟨rfl, hw9⟩; replace hw9 := hw9.symm; subst hw9; clear HP4; obtain ⟨t9, ht9⟩ := eX (n.tmod 9); have rt9 : 0 <= t9 /\ t9 < 9 := by rw [<- ht9]; exact ⟨Int.tmod_nonneg _ (by omega), Int.tmod_lt_of_pos _ (by omega)⟩
     have ht9' : n % 9 = t9 := by rw [<- ht9, Int.tmod_eq_emod_of_nonneg (by omega)]
     obtain ⟨q3, hq3⟩ := eX ((n.tdiv 9).tmod 3); have hq3' : n / 9 % 3 = q3 := by rw [<- hq3, Int.tdiv_eq_ediv_of_nonneg (by omega), Int.tmod_eq_emod_of_nonneg (by omega)]
     obtain ⟨z1, hz1⟩ := eX (t9 - 4); have hz1w : IntKind.i64.wrap (t9 - 4) = z1 := by rw [IntWalk.i64_in _ (by omega)]; exact hz1
     have rz1 : -4 <= z1 /\ z1 <= 4 := by omega
     have hck : k < cs.length := by rw [HC.o.1]; exact hkc
     obtain ⟨u9, e1⟩ : ∃ u, w2.cell? ⟨g, k, none⟩ = some u := ⟨_, (Oc.o.cell k).trans (List.getElem?_eq_getElem (by rw [List.length_map, HC.o.1]; exact hkc))⟩; have e2 := Oc.o.frozen (k); have Ocx := Oc; obtain ⟨w3, hw⟩ := eX (w2.setCell ⟨g, k, none⟩ (.int .i64 z1)); have ho : qAc (fun b => b = g) w2 w3 := by rw [<- hw]; exact (qAc.refl (fun b => b = g) _).set (p := ⟨g, k, none⟩) rfl _
     have hN : ∀ b, b = g -> qAg w2 b := fun b e => e ▸ Oc.o.noInt qC0; replace Oc := hZ ((by have h1 := Oc.o.set k (.int .i64 z1); rw [hw, show (Value.int .i64 z1) = zv z1 from rfl, <- List.map_set] at h1; exact h1)); replace II := hZ (II.o.only ho hN (fun i hi => HGg.o.2 i hi)); replace HB := hZ (qAj HB.o ho (fun b e => by have := HGg.o; omega) HB.o.size); have ho9 := ho; clear ho hN; replace HO := hZ (ho9.own HO.o (fun b e (h : b = g) => qBy HO.o e Ocx.o h.symm)); clear ho9 Ocx; replace HC : Hid ((cs.set k z1).length = c /\ ∀ x ∈ cs.set k z1, -Bd <= x /\ x <= Bd) := hZ ⟨by rw [List.length_set]; exact HC.o.1, fun x hx => by rcases List.mem_or_eq_of_mem_set hx with h9 | h9; exact HC.o.2 x h9; rw [h9]; have := HBd.o.1; omega⟩; generalize cs.set k z1 = cs at *; have e1a := e1; have e2a := e2; have hwa := hw; clear e1 e2 hw
     go_upto_if 49 with fail
     clear e1a e2a hwa hz1w
     go_cut [] from 28 to 96 (fun  wc => ∃ cs : List Int, Hid (cs.length = c /\ ∀ x ∈ cs, -Bd <= x /\ x <= Bd) /\ Hid (qAE wc g 3 (cs.map zv)) /\ Hid (wc.ownsRow w0.heap.size 22 1 (.slice ga l.length cp) l.length (l.map rwI)) /\ Hid (qAI wc l M) /\ Hid (Below w0.heap.size w0 wc))
     ·skip
      by_cases hq0 : q3 = 0
      ·skip
       have f0 : (q3 == 0) = true := by simp [hq0]
       obtain ⟨u9, e1⟩ : ∃ u, w3.cell? ⟨g, k, none⟩ = some u := ⟨_, (Oc.o.cell k).trans (List.getElem?_eq_getElem (by rw [List.length_map, HC.o.1]; exact hkc))⟩; have e2 := Oc.o.frozen (k); have Ocx := Oc; obtain ⟨w4, hw⟩ := eX (w3.setCell ⟨g, k, none⟩ (.int .i64 (0))); have ho : qAc (fun b => b = g) w3 w4 := by rw [<- hw]; exact (qAc.refl (fun b => b = g) _).set (p := ⟨g, k, none⟩) rfl _
       have hN : ∀ b, b = g -> qAg w3 b := fun b e => e ▸ Oc.o.noInt qC0; replace Oc := hZ ((by have h1 := Oc.o.set k (.int .i64 (0)); rw [hw, show (Value.int .i64 (0)) = zv (0) from rfl, <- List.map_set] at h1; exact h1)); replace II := hZ (II.o.only ho hN (fun i hi => HGg.o.2 i hi)); replace HB := hZ (qAj HB.o ho (fun b e => by have := HGg.o; omega) HB.o.size); have ho9 := ho; clear ho hN; replace HO := hZ (ho9.own HO.o (fun b e (h : b = g) => qBy HO.o e Ocx.o h.symm)); clear ho9 Ocx; replace HC : Hid ((cs.set k (0)).length = c /\ ∀ x ∈ cs.set k (0), -Bd <= x /\ x <= Bd) := hZ ⟨by rw [List.length_set]; exact HC.o.1, fun x hx => by rcases List.mem_or_eq_of_mem_set hx with h9 | h9; exact HC.o.2 x h9; rw [h9]; have := HBd.o.1; omega⟩; generalize cs.set k (0) = cs at *
       go_wp2_with fail
       go_meet
       case rel => exact ⟨cs, HC, Oc, HO, II, HB⟩
      ·skip
       have f0 : (q3 == 0) = false := by rw [beq_eq_false_iff_ne]; exact hq0
       go_wp2_with fail
       go_meet
       case rel => exact ⟨cs, HC, Oc, HO, II, HB⟩
     ·skip
      clear HC Oc HO II HB hck; obtain ⟨cs, HC, Oc, HO, II, HB⟩ := hcut; obtain ⟨w4, rfl⟩ := eY wc; have hck : k < cs.length := by rw [HC.o.1]; exact hkc
      obtain ⟨m10, hm10⟩ := eX (how.tmod 10); have hm10' : how % 10 = m10 := by rw [<- hm10, Int.tmod_eq_emod_of_nonneg (by omega)]
      go_upto_if 55 with fail
      go_cut [] from 28 to 96 (fun  wc => ∃ cs : List Int, Hid (cs.length = c /\ ∀ x ∈ cs, -Bd <= x /\ x <= Bd) /\ Hid (qAE wc g 3 (cs.map zv)) /\ Hid (wc.ownsRow w0.heap.size 22 1 (.slice ga l.length cp) l.length (l.map rwI)) /\ Hid (qAI wc l M) /\ Hid (Below w0.heap.size w0 wc))
      ·skip
       by_cases hm0 : m10 = 0
       ·skip
        have g1 : (m10 == 0) = true := by simp [hm0]
        obtain ⟨nn, hnn⟩ := eX (n * n); have rnn : 0 <= nn /\ nn <= 1000000000000 := by rw [<- hnn]; exact ⟨Int.mul_nonneg R4.1 R4.1, by have := Int.mul_le_mul (show n <= 1000000 by omega) (show n <= 1000000 by omega) R4.1 (by omega); omega⟩
        have hnw : IntKind.i64.wrap (n * n) = nn := by rw [hnn, IntWalk.i64_in _ (by omega)]
        go_wp2_with fail
        clear g1 hnw; refine (qJi nn L w4 (by omega) (by omega) (by omega) (by omega)).mono ?_; rintro e w9 ⟨⟨z3, rfl, rz3, rz4⟩, hw9⟩; replace hw9 := hw9.symm; subst hw9; obtain ⟨u9, e1⟩ : ∃ u, w4.cell? ⟨g, k, none⟩ = some u := ⟨_, (Oc.o.cell k).trans (List.getElem?_eq_getElem (by rw [List.length_map, HC.o.1]; exact hkc))⟩; have e2 := Oc.o.frozen (k); have Ocx := Oc; obtain ⟨w5, hw⟩ := eX (w4.setCell ⟨g, k, none⟩ (.int .i64 z3)); have ho : qAc (fun b => b = g) w4 w5 := by rw [<- hw]; exact (qAc.refl (fun b => b = g) _).set (p := ⟨g, k, none⟩) rfl _
        have hN : ∀ b, b = g -> qAg w4 b := fun b e => e ▸ Oc.o.noInt qC0; replace Oc := hZ ((by have h1 := Oc.o.set k (.int .i64 z3); rw [hw, show (Value.int .i64 z3) = zv z3 from rfl, <- List.map_set] at h1; exact h1)); replace II := hZ (II.o.only ho hN (fun i hi => HGg.o.2 i hi)); replace HB := hZ (qAj HB.o ho (fun b e => by have := HGg.o; omega) HB.o.size); have ho9 := ho; clear ho hN; replace HO := hZ (ho9.own HO.o (fun b e (h : b = g) => qBy HO.o e Ocx.o h.symm)); clear ho9 Ocx; replace HC : Hid ((cs.set k z3).length = c /\ ∀ x ∈ cs.set k z3, -Bd <= x /\ x <= Bd) := hZ ⟨by rw [List.length_set]; exact HC.o.1, fun x hx => by rcases List.mem_or_eq_of_mem_set hx with h9 | h9; exact HC.o.2 x h9; rw [h9]; have := HBd.o.1; omega⟩; generalize cs.set k z3 = cs at *
        go_wp2_with fail
        go_meet
        case rel => exact ⟨cs, HC, Oc, HO, II, HB⟩
       ·skip
        have g1 : (m10 == 0) = false := by rw [beq_eq_false_iff_ne]; exact hm0
        go_wp2_with fail
        go_meet
        case rel => exact ⟨cs, HC, Oc, HO, II, HB⟩
      ·skip
       clear HC Oc HO II HB hck; obtain ⟨cs, HC, Oc, HO, II, HB⟩ := hcut; obtain ⟨w5, rfl⟩ := eY wc; have hck : k < cs.length := by rw [HC.o.1]; exact hkc
       obtain ⟨m5, hm5⟩ := eX (how.tmod 5); have hm5' : how % 5 = m5 := by rw [<- hm5, Int.tmod_eq_emod_of_nonneg (by omega)]
       by_cases hm1 : m5 = 1 /\ 1 < j
       ·skip
        obtain ⟨hm1, hj2⟩ := hm1; have g2 : (m5 == 1) = true := by simp [hm1]
        have g3 : (1 : Int) < (j : Int) := by omega
        have hll := HL.o; have hml := II.o.len; obtain ⟨go, rfl, hgo, c0⟩ := qHD HO.o (show 0 < l.length by omega); obtain ⟨go2, hgo2, -, c1⟩ := qHD HO.o (show 1 < l.length by omega); injection hgo2 with hgo2; injection hgo2 with hgo2; subst hgo2; rw [List.getElem?_map, List.getElem?_eq_getElem (show 0 < l.length by omega)] at c0; rw [List.getElem?_map, List.getElem?_eq_getElem (show 1 < l.length by omega)] at c1; simp only [Option.map_some, rwI] at c0 c1; obtain ⟨k0, l0⟩ := II.o.row 0 (by omega); obtain ⟨k1', l1⟩ := II.o.row 1 (by omega); have b0 := HR.o 0 (by omega); have b1 := HR.o 1 (by omega); rw [if_pos (by omega)] at b0 b1; rw [b0.1] at l0; rw [b1.1] at l1; rw [<- l0] at c0; rw [<- l1] at c1; have y0 := (k0.cell k).trans (show _ = some (Value.int .i64 ((M[0]'(by omega))[k]'(by rw [b0.1]; exact hkc))) from by rw [List.getElem?_map, List.getElem?_eq_getElem (show k < (M[0]'(by omega)).length by rw [b0.1]; exact hkc)]; rfl); have y1 := (k1'.cell k).trans (show _ = some (Value.int .i64 ((M[1]'(by omega))[k]'(by rw [b1.1]; exact hkc))) from by rw [List.getElem?_map, List.getElem?_eq_getElem (show k < (M[1]'(by omega)).length by rw [b1.1]; exact hkc)]; rfl); have r0 := b0.2 _ (List.getElem_mem (show k < (M[0]'(by omega)).length by rw [b0.1]; exact hkc)); have r1 := b1.2 _ (List.getElem_mem (show k < (M[1]'(by omega)).length by rw [b1.1]; exact hkc)); generalize (M[0]'(by omega))[k]'(by rw [b0.1]; exact hkc) = xx at *; generalize (M[1]'(by omega))[k]'(by rw [b1.1]; exact hkc) = yy at *; have hgl0 := k0.lt; have hgl1 := k1'.lt; generalize l[0].1 = gr0 at *; generalize l[1].1 = gr1 at *; have HY := hZ (And.intro c0 (And.intro c1 (And.intro y0 y1))); have HG4 := hZ (And.intro hgo (And.intro hgl0 hgl1)); clear k0 k1' l0 l1 b0 b1 c0 c1 y0 y1 hgo hgl0 hgl1; obtain ⟨a3, ha3⟩ := eX ((how.tdiv 10).tmod 3); have ra3 : 0 <= a3 /\ a3 < 3 := by rw [<- ha3]; exact ⟨Int.tmod_nonneg _ (Int.tdiv_nonneg (by omega) (by omega)), Int.tmod_lt_of_pos _ (by omega)⟩
        have ha3' : how / 10 % 3 = a3 := by rw [<- ha3, Int.tdiv_eq_ediv_of_nonneg (by omega), Int.tmod_eq_emod_of_nonneg (by omega)]
        obtain ⟨b2, hb2⟩ := eX ((how.tdiv 10).tmod 2); have rb2 : 0 <= b2 /\ b2 < 2 := by rw [<- hb2]; exact ⟨Int.tmod_nonneg _ (Int.tdiv_nonneg (by omega) (by omega)), Int.tmod_lt_of_pos _ (by omega)⟩
        have hb2' : how / 10 % 2 = b2 := by rw [<- hb2, Int.tdiv_eq_ediv_of_nonneg (by omega), Int.tmod_eq_emod_of_nonneg (by omega)]
        obtain ⟨d10, hd10⟩ := eX (how.tdiv 10); have rd10 : 0 <= d10 /\ d10 <= 60 := by rw [<- hd10, Int.tdiv_eq_ediv_of_nonneg (by omega)]; omega
        have hd10' : how / 10 = d10 := by rw [<- hd10, Int.tdiv_eq_ediv_of_nonneg (by omega)]
        rw [hd10] at ha3 hb2; rw [hd10'] at ha3' hb2'; obtain ⟨s3, hs3⟩ := eX (a3 - 1); have ws3 : IntKind.i64.wrap (a3 - 1) = s3 := by rw [IntWalk.i64_in _ (by omega)]; exact hs3
        have rs3 : -1 <= s3 /\ s3 <= 1 := by omega
        obtain ⟨s2, hs2⟩ := eX (b2 + 1); have ws2 : IntKind.i64.wrap (b2 + 1) = s2 := by rw [IntWalk.i64_in _ (by omega)]; exact hs2
        have rs2 : 1 <= s2 /\ s2 <= 2 := by omega
        obtain ⟨p0, hp0⟩ := eX (xx * s3); have rp0 : -L <= p0 /\ p0 <= L := by rw [<- hp0]; rcases (show s3 = -1 \/ s3 = 0 \/ s3 = 1 by omega) with e | e | e <;> rw [e] <;> omega
        have wp0 : IntKind.i64.wrap (xx * s3) = p0 := by rw [hp0, IntWalk.i64_in _ (by omega)]
        obtain ⟨p1, hp1⟩ := eX (yy * s2); have rp1 : -(2 * L) <= p1 /\ p1 <= 2 * L := by rw [<- hp1]; rcases (show s2 = 1 \/ s2 = 2 by omega) with e | e <;> rw [e] <;> omega
        have wp1 : IntKind.i64.wrap (yy * s2) = p1 := by rw [hp1, IntWalk.i64_in _ (by omega)]
        obtain ⟨z5, hz5⟩ := eX (p0 - p1); have wz5 : IntKind.i64.wrap (p0 - p1) = z5 := by rw [IntWalk.i64_in _ (by omega)]; exact hz5
        have rz5 : -(3 * L) <= z5 /\ z5 <= 3 * L := by omega
        have wd10 : IntKind.i64.wrap d10 = d10 := IntWalk.i64_in _ (by omega); have ws3' : IntKind.i64.wrap s3 = s3 := IntWalk.i64_in _ (by omega); have ws2' : IntKind.i64.wrap s2 = s2 := IntWalk.i64_in _ (by omega); have wp0' : IntKind.i64.wrap p0 = p0 := IntWalk.i64_in _ (by omega); have wp1' : IntKind.i64.wrap p1 = p1 := IntWalk.i64_in _ (by omega); have wz5' : IntKind.i64.wrap z5 = z5 := IntWalk.i64_in _ (by omega); have wa3 : IntKind.i64.wrap a3 = a3 := IntWalk.i64_in _ (by omega); have wb2 : IntKind.i64.wrap b2 = b2 := IntWalk.i64_in _ (by omega); have o0 : (0 : Int) < (l.length : Int) := by omega
        have o1 : (1 : Int) < (l.length : Int) := by omega
        have o2 : 0 < l.length := by omega
        have o3 : 1 < l.length := by omega
        clear hll hml
        go_wp2_with fail
        have HD := hZ (Below.refl w5.heap.size w5); obtain ⟨w6, hwd⟩ := eX w5.drew; have hB := dB hwd; replace Oc := Oc.b hB; replace II := II.b hB; replace HB := bT HB hB; replace HD := bT HD hB; clear hB; have HBr : Hid (qAc (fun b => False) w6 w6) := hZ (qAc.refl _ _); refine qAx [26] (fun w' => qAc (fun b => False) w6 w') (by kernel_rfl) (by rw [hwd]; exact qAc.refl _ _) (fun hHeld => ?_); rw [hwd] at hHeld ⊢; clear hwd; replace HO := hZ (qDx HD.o HO.o); have c0 := (HD.o.cell (p := ⟨go, 0, none⟩) HG4.o.1).trans HY.o.1; have c1 := (HD.o.cell (p := ⟨go, 1, none⟩) HG4.o.1).trans HY.o.2.1; have y0 := (HD.o.cell (p := ⟨gr0, k, none⟩) HG4.o.2.1).trans HY.o.2.2.1; have y1 := (HD.o.cell (p := ⟨gr1, k, none⟩) HG4.o.2.2).trans HY.o.2.2.2; have m0 := Nat.lt_of_lt_of_le HG4.o.1 HD.o.size; have m1 := Nat.lt_of_lt_of_le HG4.o.2.1 HD.o.size; have m2 := Nat.lt_of_lt_of_le HG4.o.2.2 HD.o.size; refine pU 0 71 ?_; refine pU 1 72 ?_; refine pU 2 73 ?_; refine pU 3 74 ?_; refine tU 4 75 (cF c0 m0) ?_; refine pU 5 76 ?_; refine pU 6 77 ?_; refine tU 7 78 (cF y0 m1) ?_; refine pU 8 79 ?_; refine pU 9 80 ?_; refine pU 10 81 ?_; refine pU 11 82 ?_; refine pU 12 83 ?_; refine pU 13 84 ?_; refine pU 14 85 ?_; refine tU 15 86 (cF c1 m0) ?_; refine pU 16 87 ?_; refine pU 17 88 ?_; refine tU 18 89 (cF y1 m2) ?_; refine pU 19 90 ?_; refine pU 20 91 ?_; refine pU 21 92 ?_; refine pU 22 93 ?_; refine pU 23 94 ?_; refine pU 24 95 ?_; refine pU 25 96 ?_; clear c0 c1 y0 y1 m0 m1 m2; obtain ⟨u9, e1⟩ : ∃ u, w6.cell? ⟨g, k, none⟩ = some u := ⟨_, (Oc.o.cell k).trans (List.getElem?_eq_getElem (by rw [List.length_map, HC.o.1]; exact hkc))⟩; have e2 := Oc.o.frozen (k); have Ocx := Oc; obtain ⟨w7, hw⟩ := eX (w6.setCell ⟨g, k, none⟩ (.int .i64 z5)); have ho : qAc (fun b => b = g) w6 w7 := by rw [<- hw]; exact (qAc.refl (fun b => b = g) _).set (p := ⟨g, k, none⟩) rfl _
        have hN : ∀ b, b = g -> qAg w6 b := fun b e => e ▸ Oc.o.noInt qC0; replace Oc := hZ ((by have h1 := Oc.o.set k (.int .i64 z5); rw [hw, show (Value.int .i64 z5) = zv z5 from rfl, <- List.map_set] at h1; exact h1)); replace II := hZ (II.o.only ho hN (fun i hi => HGg.o.2 i hi)); replace HB := hZ (qAj HB.o ho (fun b e => by have := HGg.o; omega) HB.o.size); have ho9 := ho; clear ho hN; replace HO := hZ (ho9.own HO.o (fun b e (h : b = g) => qBy HO.o e Ocx.o h.symm)); clear ho9 Ocx; replace HC : Hid ((cs.set k z5).length = c /\ ∀ x ∈ cs.set k z5, -Bd <= x /\ x <= Bd) := hZ ⟨by rw [List.length_set]; exact HC.o.1, fun x hx => by rcases List.mem_or_eq_of_mem_set hx with h9 | h9; exact HC.o.2 x h9; rw [h9]; have := HBd.o.2 (by omega); omega⟩; generalize cs.set k z5 = cs at *; refine lU 26 fun K hK => ?_; go_simp
        try rw [hw]
        refine hK.out _ _ ?_; clear hK K
        try simp only [Act.put, sX1, sX2, sX3]
        clear hw e1 e2; refine dU ?_; clear hHeld
        go_wp2_with fail
        go_roundw
        case rel => exact ⟨k + 1, cs, by omega, by go_num, HC, Oc, HO, II, HB⟩
        case measure => simp [intOf]; omega
       ·skip
        by_cases hm2 : m5 = 1
        ·skip
         have g2 : (m5 == 1) = true := by simp [hm2]
         have g3 : ¬ (1 : Int) < (j : Int) := by omega
         go_wp2_with fail
         go_roundw
         case rel => exact ⟨k + 1, cs, by omega, by go_num, HC, Oc, HO, II, HB⟩
         case measure => simp [intOf]; omega
        ·skip
         have g2 : (m5 == 1) = false := by rw [beq_eq_false_iff_ne]; exact hm2
         go_wp2_with fail
         go_roundw
         case rel => exact ⟨k + 1, cs, by omega, by go_num, HC, Oc, HO, II, HB⟩
         case measure => simp [intOf]; omega
    ·skip
     go_wp2_with (at_builtin; refine qAX (W0 := w0) qCO rfl _ _ rfl [rwI (g, c)] 22 _ _ _ rfl rfl rfl (by simp [Value.oneCell', rwI]) HO.o HB.o HB.o.size (by have := HL.o; omega) (by omega) ?_)
     intro g9 cap9 w9 ho9 hb9 hon9 hc9 hgg; have hc10 : l.length + 1 <= cap9 := by
      rcases ho9.o.2 with ⟨hv, _⟩ | ⟨_, _, _, hv, _, _, h4, _, _⟩
      ·cases hv
      ·injection hv with _ _ e
       omega
     have k1 := II.o.only' hon9.o (fun i hi e => qBy HO.o e (II.o.row i hi).1 rfl); have k2 := Oc.o.only hon9.o (fun e => qBy HO.o e Oc.o rfl); have k3 := k1.snoc k2; rw [HC.o.1] at k3
     go_wp2_with fail
     go_roundw
     case rel =>
      refine ⟨j + 1, cap9, some ⟨g9, 0, none⟩, l ++ [(g, c)], M ++ [cs], by omega, by go_num, by simp, by simpa using hc10, hc9, hZ (by have := HL.o; simp; omega), hZ (fun t ht => ?_), hZ (by have h9 := ho9.o; rw [List.length_append, List.map_append]; exact h9), hZ k3, hb9⟩; have hml := II.o.len; have hl := HL.o; simp only [List.length_append, List.length_singleton] at ht; by_cases e9 : t < M.length
      ·rw [List.getElem_append_left e9]; exact HR.o t e9
      ·obtain rfl : t = M.length := by omega
       rw [List.getElem_append_right (Nat.le_refl _)]; simp only [Nat.sub_self, List.getElem_singleton]; rw [show M.length = j by omega, HBe.o]; exact HC.o
     case measure => simp [intOf]; omega
  ·skip
   go_wp2_with fail
   go_ret; have hml := II.o.len; have hl := HL.o; refine ⟨M, _, rfl, qAA.of_own HO.o II.o (fun x hx => by obtain ⟨t, ht, rfl⟩ := List.mem_iff_getElem.1 hx; rw [(HR.o t ht).1]; omega), ⟨by omega, ⟨c, hc5, fun x hx => by obtain ⟨t, ht, rfl⟩ := List.mem_iff_getElem.1 hx; exact (HR.o t ht).1⟩, fun x hx y hy => ?_⟩, HB.o⟩; obtain ⟨t, ht, rfl⟩ := List.mem_iff_getElem.1 hx; have := (HR.o t ht).2 y hy
   split at this <;> omega
open Go.RowKit
theorem qEe {P : Program} {w : World} {base t ty e : Nat} {i : TypeInfo} {size : Nat} (ht : P.underlying t = some (.slice e)) (hi : P.info? e = some i) {v : Value} {n : Nat} {xs : List Value} (hown : w.ownsRow base e size v n xs) (c : Nat) :
 (Builtin.append_ #[t, t] ty #[v, .slice none 0 c]).run P w = .ok v w := by
 obtain ⟨hl, h⟩ := hown; rcases h with ⟨rfl, rfl⟩ | ⟨g, cap, cur, rfl, _, _, hnc, _⟩
 ·simp [Builtin.append_, run_underlying ht, sizeOf, typeInfo, hi, Builtin.lenOf, Builtin.firstCells]
 ·simp [Builtin.append_, run_underlying ht, sizeOf, typeInfo, hi, Builtin.lenOf, Builtin.firstCells, hnc, storeCells]
theorem qGM {P : Program} {W0 w : World} {ops : Array Oper} {rest : List Oper} {o : Oper} {a : Act} {Q : Exit -> Act -> World -> Prop} {B bytes : Nat} {t e : TypeId} (hE : qIy P t e 1 bytes) (hgd : o.guard = none) (s x : Operand)
 (ho : o.op = .call { callee := .builtin .append, args := #[s, x], argTypes := #[t, t] })
 (v u : Value) (n : Nat) (xs : List Value) (l : List Int) (hs : a.eval s = v) (hx : a.eval x = u) (hl : qAo w u l)
 (hown : w.ownsRow B e 1 v n xs) (hB : Below B W0 w) (hle : B <= w.heap.size) (hn : n + l.length <= 1000000000) (hby : bytes <= 1000)
 (h : ∀ v' w', Hid (w'.ownsRow B e 1 v' (n + l.length) (xs ++ l.map zv)) -> Hid (Below B W0 w') -> Hid (qAc (fun b => v.ownBlock = some b) w w') -> wpList P ops Q rest (a.put o.dst v') w') : wpList P ops Q (o :: rest) a w := by
 obtain ⟨ad, cap, rfl, h1, h2, hc⟩ := hl; rcases Nat.eq_zero_or_pos l.length with h0 | h0
 ·obtain rfl := List.eq_nil_of_length_eq_zero h0
  cases ad with
  | none =>
   obtain ⟨ht, i, z, hi, hz, hsize, hbyt, hzs, hk⟩ := hE; refine wpList_plain hgd fun K hK => ?_; have hrun := qEe (P := P) (w := w) (base := B) (t := t) (ty := o.type) ht hi hown cap; unfold Oper.wp; simp [execOp, ho, resolve, invoke, builtin, hs, hx, hrun, Result.andThen]; exact hK _ _ (h v w (hZ (by simpa using hown)) (hZ hB) (hZ (qAc.refl _ _)))
  | some ad =>
   exact qCn (W0 := W0) (B := B) hE hgd s x ho v n xs hs ad 0 cap [] (by rw [hx]; rfl) rfl (fun j u hu => by simp at hu) (by simp) hown hB hle hn hby h
 ·obtain ⟨b, rfl, hlt, hcc⟩ := hc h0
  refine qCn (W0 := W0) (B := B) hE hgd s x ho v n xs hs ⟨b, 0, none⟩ l.length cap (l.map zv) hx (by simp) (fun j u hu => ?_) ?_ hown hB hle hn hby h
  ·have hj : j < l.length := by
    rcases Nat.lt_or_ge j l.length with h3 | h3
    ·exact h3
    ·rw [List.getElem?_eq_none (by simpa using h3)] at hu; cases hu
   obtain ⟨cs, rfl, _, hcl⟩ := hcc j hj; have hadd : (⟨b, 0, none⟩ : Addr).add j = ⟨b, j, none⟩ := by unfold Addr.add; split <;> simp_all
   have := hcl 0 (by omega); rw [Nat.mul_one, Nat.add_zero] at this; rw [hadd, this]; simpa [hj] using hu
  ·intro u hu
   obtain ⟨y, _, rfl⟩ := List.mem_map.1 hu; rfl
end Go.Proofs.Ytlmbebbdamgfpaa
