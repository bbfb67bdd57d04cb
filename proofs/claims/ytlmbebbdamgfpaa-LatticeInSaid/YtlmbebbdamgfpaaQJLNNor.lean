/- worldmintref06.Normal. -/
import Derived.Test.YtlmbebbdamgfpaaQJLNMat
import Derived.Test.YtlmbebbdamgfpaaQJLSz
import Derived.Test.YtlmbebbdamgfpaaQJRegFree
import Derived.Deep.Cut
set_option linter.unusedVariables false
set_option linter.unusedSimpArgs false
set_option maxHeartbeats 16000000
set_option maxRecDepth 100000
namespace Go.Proofs.Ytlmbebbdamgfpaa
open Go.RowKit
def Bn (w : World) (b : Nat) (z : Int) : Prop := ∃ s a n c, Two w b 61 (.bool s) (.slice a n c) /\ qAH w (.agg #[.bool s, .slice a n c]) z
section
variable {w w' : World} {b g : Nat} {z : Int} {o1 o2 : Nat} {s : Bool} {a : Option Addr} {n c : Nat}
theorem Two.allC {t : TypeId} {x y : Value} {Q : Value -> Prop} (h : Two w b t x y) (hx : Q x) (hy : Q y) : qFp Q w b := by
 refine qCF h (fun u hu => ?_); simp at hu; rcases hu with rfl | rfl
 ·exact hx
 ·exact hy
theorem Bn.lt (h : Bn w b z) : b < w.heap.size := by obtain ⟨_, _, _, _, h, _⟩ := h; exact h.lt
theorem Bn.blw (h : Bn w b z) (hb : Below w.heap.size w w') : Bn w' b z := by
 obtain ⟨s, a, n, c, h1, h2⟩ := h; exact ⟨s, a, n, c, h1.below hb h1.lt, h2.blw hb⟩
instance : Mv w w' (Bn w b z) (Bn w' b z) := ⟨fun hb h => Bn.blw h hb⟩
theorem Bn.noInt (h : Bn w b z) : qA1 w b := by
 obtain ⟨s, a, n, c, h1, h2⟩ := h; exact (h1.allC (Q := qIr) (.inl ⟨_, rfl⟩) (.inr ⟨_, _, _, rfl⟩)).bs
theorem Bn.new (h : qAH w (.agg #[.bool s, .slice a n c]) z) : Bn (w.alloc (.cells #[.bool s, .slice a n c] 61)) w.heap.size z :=
 ⟨s, a, n, c, Two.new _ _ _ _, h.blw ((Below.refl _ _).alloc (Nat.le_refl _) _)⟩
theorem qAH.off {v : Value} (h : qAH w v z) (hn : qA1 w g) : qAH (st2 w g o1 o2 s a n c) v z := h.only (S := fun b => b = g) ((qAb.refl _ _).off' (.inl rfl)) (fun b e => e ▸ hn)
theorem Bn.only {S : Nat -> Prop} (h : Bn w b z) (ho : qAb S w w') (hS : ∀ b, S b -> qA1 w b) (hn : ¬ S b) : Bn w' b z := by
 obtain ⟨s, a, n, c, h1, h2⟩ := h; exact ⟨s, a, n, c, h1.only ho hn, h2.only ho hS⟩
theorem Bn.off (h : Bn w b z) (hn : qA1 w g) (hne : b ≠ g) : Bn (st2 w g o1 o2 s a n c) b z := h.only (S := fun b => b = g) ((qAb.refl _ _).off' (.inl rfl)) (fun b e => e ▸ hn) hne
theorem qAH.offe {v : Value} (h : qAH w v z) (e : st2 w g o1 o2 s a n c = w') (hn : qA1 w g) : qAH w' v z := e ▸ h.off hn
theorem Bn.offe (h : Bn w b z) (e : st2 w g o1 o2 s a n c = w') (hn : qA1 w g) (hne : b ≠ g) : Bn w' b z := e ▸ h.off hn hne
theorem Bn.put (h : Bn w b z) {y : Int} (hy : qAH w (.agg #[.bool s, .slice a n c]) y) : Bn (st2 w b 0 1 s a n c) b y := by
 have hn := h.noInt; obtain ⟨s', a', n', c', h1, h2⟩ := h; exact ⟨s, a, n, c, h1.put2 _ _, hy.off hn⟩
end
theorem qKf (x y : Int) : qAK (x.natAbs : Int) (y.natAbs : Int) < 0 ↔ x.natAbs < y.natAbs := by
 unfold qAK
 split
 ·omega
 ·split <;> omega
theorem qJc {M : List (List Int)} {k : Nat} (h : ∀ r ∈ M, ∀ x ∈ r, Sz k x) (i j : Nat) : Sz k (ent M i j) := by
 unfold ent; rcases Nat.lt_or_ge i M.length with hi | hi
 ·rw [List.getElem?_eq_getElem hi]; exact qDP (h _ (List.getElem_mem _)) j
 ·rw [List.getElem?_eq_none hi]; exact qDP (fun x hx => by cases hx) j
theorem qDh.eq_ {M M' : List (List Int)} {top c : Nat} (h : qDh M top c (top + 1) M') : M' = M :=
 List.ext_getElem h.len (fun k hk hk' => h.same k hk' hk (by omega))
def qIu (w : World) (v : Value) (x y : Int) : Prop := ∃ s a n c s' a' n' c', v = .tuple #[.agg #[.bool s, .slice a n c], .agg #[.bool s', .slice a' n' c']] /\ qAH w (.agg #[.bool s, .slice a n c]) (x / y) /\ qAH w (.agg #[.bool s', .slice a' n' c']) (x % y)
theorem qIu.blw {w w' : World} {v : Value} {x y : Int} (h : qIu w v x y) (hb : Below w.heap.size w w') : qIu w' v x y := by
 obtain ⟨s, a, n, c, s', a', n', c', rfl, h1, h2⟩ := h; exact ⟨s, a, n, c, s', a', n', c', rfl, h1.blw hb, h2.blw hb⟩
instance {w w' : World} {v : Value} {x y : Int} : Mv w w' (qIu w v x y) (qIu w' v x y) := ⟨fun hb h => qIu.blw h hb⟩
theorem qFY (w0 : World) (a : Option Addr) (k c columns : Nat) (h : columns = 0 \/ k = 0) (hk : k <= 1000) (hc : columns <= 1000) :
 Calls Try.prog 41 #[.slice a k c, .int .i64 columns] w0 fun e w' => e = .returned (.tuple #[.slice a k c, .int .i64 0]) /\ Below w0.heap.size w0 w' := by
 have HB := hZ (Below.refl w0.heap.size w0)
 go_enter Try.func41, Try.ntmps41
 go_wp2_with fail
 go_loopw [7, 6] (fun cv tv wr => cv = .int .i64 0 /\ tv = .int .i64 0 /\ Hid (Below w0.heap.size w0 wr)) (fun _ _ _ => 0)
 case atStart => exact ⟨rfl, rfl, HB⟩
 case round =>
  obtain ⟨rfl, rfl, HB⟩ := hrel; rcases Nat.eq_zero_or_pos columns with h0 | h0
  ·subst h0
   go_wp2_with fail
   exact bodyPost_ret (v := .tuple #[.slice a k c, .int .i64 0]) (by simp [results, Try.results41, go_sem]) rfl ⟨rfl, HB.o⟩
  ·obtain rfl : k = 0 := by omega
   have c1 : (0 : Int) < (columns : Int) := by omega
   go_wp2_with fail
   exact bodyPost_ret (v := .tuple #[.slice a 0 c, .int .i64 0]) (by simp [results, Try.results41, go_sem]) rfl ⟨rfl, HB.o⟩
theorem qGR (w0 : World) (B0 R cR m n columns b : Nat) (l0 : List Nw) (M0 : List (List Int)) (h : NMt w0 B0 R cR m l0 n M0) (hm0 : 0 < m) (hm : m <= 1000) (hn0 : 0 < n) (hn : n <= 1000) (hcol : columns <= n) (hS : ∀ r ∈ M0, ∀ x ∈ r, Sz b x) (h5 : 5 <= b) (hb : b * 5 ^ (m - 1) <= 900000) :
 Calls Try.prog 41 #[.slice (some ⟨R, 0, none⟩) m cR, .int .i64 columns] w0 fun e w' => ∃ (l : List Nw) (M : List (List Int)) (top : Nat), e = .returned (.tuple #[.slice (some ⟨R, 0, none⟩) m cR, .int .i64 top]) /\ NMt w' B0 R cR m l n M /\ qDw M0 M n columns top /\ (∀ r ∈ M, ∀ x ∈ r, Sz (eb b m top) x) /\ qHT w0.heap.size l0 l /\ qAb (fun g => g = R) w0 w' := by
 have HE := hZ (qDw.start (M := M0) (n := n) (fun r hr => by
  obtain ⟨i, hi, rfl⟩ := List.mem_iff_getElem.1 hr; exact (h.row i (by rw [h.lenl, <- h.len]; exact hi) hi).2))
 have HS : Hid (∀ r ∈ M0, ∀ x ∈ r, Sz (eb b m 0) x) := hZ (by rw [qKb]; exact hS); have HEB : Hid (∀ top, eb b m top <= 900000) := hZ (fun top => Nat.le_trans (qMg b m top) hb); have HL0 := hZ h.len; have Nm := hZ h; have HBl : Hid (qHT w0.heap.size l0 l0) := hZ qHT.refl; have HO : Hid (qAb (fun g => g = R) w0 w0) := hZ (qAb.refl _ _); clear h hS hb
 go_enter Try.func41, Try.ntmps41
 go_wp2_with fail
 go_loopw [7, 6] (fun cv tv wr => ∃ (c top : Nat) (l : List Nw) (M : List (List Int)), c <= columns /\ top <= m /\ cv = .int .i64 c /\ tv = .int .i64 top /\ Hid (qDw M0 M n c top) /\ Hid (∀ r ∈ M, ∀ x ∈ r, Sz (eb b m top) x) /\ Hid (NMt wr B0 R cR m l n M) /\ Hid (qHT w0.heap.size l0 l) /\ Hid (qAb (fun g => g = R) w0 wr)) (fun cv _ _ => columns - (intOf cv).toNat)
 case atStart => exact ⟨0, 0, l0, M0, by omega, by omega, rfl, rfl, HE, HS, Nm, HBl, HO⟩
 case round =>
  clear HE HS Nm HBl HO; obtain ⟨c, top, l, M, hc, htop, rfl, rfl, HE, HS, Nm, HBl, HO⟩ := hrel; obtain ⟨w1, rfl⟩ := eY wr; by_cases hcc : c < columns
  ·as_aux_lemma =>
   have c1 : (c : Int) < (columns : Int) := by omega
   have HLm : Hid (M.length = m) := hZ Nm.o.len; by_cases htm : top < m
   ·as_aux_lemma =>
    have c2 : (top : Int) < (m : Int) := by omega
    obtain ⟨g0, hg0⟩ := qDf.start (qGh.ech HE.o HLm.o h5 HS.o); have HH := hZ hg0; clear hg0; have i1 : (0 : Int) <= (c : Int) := by omega
    have i2 : (c : Int) < (n : Int) := by omega
    go_wp2_with fail
    go_loopg [8] g0 (fun g lv wr => ∃ (left : Nat) (l : List Nw) (M : List (List Int)), lv = .int .i64 left /\ left <= 1000 /\ Hid (qDw M0 M n c top) /\ Hid (qDf M top c (eb b m top) (eb b m (top + 1)) left g) /\ Hid (NMt wr B0 R cR m l n M) /\ Hid (qHT w0.heap.size l0 l) /\ Hid (qAb (fun g => g = R) w0 wr))
    case atStart => exact ⟨2, l, M, rfl, by omega, HE, HH, Nm, HBl, HO⟩
    case round =>
     clear HE HS HH Nm HBl HO HLm; obtain ⟨lf, l, M, rfl, hlf, HE, HH, Nm, HBl, HO⟩ := hrel; obtain ⟨w1, rfl⟩ := eY wr; have HLm : Hid (M.length = m) := hZ Nm.o.len; have HLl : Hid (l.length = m) := hZ Nm.o.lenl; by_cases hlf2 : lf = 0
     ·as_aux_lemma =>
      subst hlf2
      go_wp2_with fail
      go_roundw
      case rel =>
       rcases HH.o with ⟨h9, -⟩ | ⟨-, hz, hs⟩ | ⟨h9, -⟩
       ·omega
       ·exact ⟨c + 1, top, l, M, by omega, by omega, by go_num, by go_num, hZ (HE.o.col0 hz), hZ hs, Nm, HBl, HO⟩
       ·omega
      case measure => simp [intOf]; omega
     ·as_aux_lemma =>
      by_cases hlf3 : lf = 1
      ·as_aux_lemma =>
       subst hlf3
       go_wp2_with fail
       go_roundw
       case rel =>
        rcases HH.o with ⟨h9, -⟩ | ⟨h9, -⟩ | ⟨-, hz, h0, hs⟩
        ·omega
        ·omega
        ·exact ⟨c + 1, top + 1, l, M, by omega, by omega, by go_num, by go_num, hZ (HE.o.col1 (by rw [HLm.o]; exact htm) hz h0), hZ hs, Nm, HBl, HO⟩
       case measure => simp [intOf]; omega
      ·as_aux_lemma =>
       have l2 : (1 : Int) < (lf : Int) := by omega
       have HCS : Hid (qGi M top c top 0 top) := hZ (qGi.start (by rw [HLm.o]; omega)); have HSb : Hid (∀ i j, Sz (eb b m (top + 1)) (ent M i j)) := hZ (fun i j => by rcases HH.o with ⟨-, -, h9, -⟩ | ⟨h9, -⟩ | ⟨h9, -⟩; exact qJc h9.fin i j; omega; omega); have heb := HEB.o (top + 1); generalize hbb : eb b m (top + 1) = b' at *; have Hbb := hZ hbb; clear hbb
       go_wp2_with fail
       go_loopw [10, 8, 9] (fun iv lv mv wr => ∃ (i left least : Nat), iv = .int .i64 i /\ lv = .int .i64 left /\ mv = .int .i64 least /\ i <= m /\ left <= i /\ least <= m /\ Hid (qGi M top c i left least) /\ Hid (NMt wr B0 R cR m l n M) /\ Hid (qAb (fun g => g = R) w0 wr)) (fun iv _ _ _ => m - (intOf iv).toNat)
       case atStart => exact ⟨top, 0, top, rfl, rfl, rfl, by omega, by omega, by omega, HCS, Nm, HO⟩
       case round =>
        clear HCS Nm HO; obtain ⟨i, left, least, rfl, rfl, rfl, hi, hli, hlm, HC, Nm, HO⟩ := hrel; obtain ⟨w1, rfl⟩ := eY wr; by_cases him : i < m
        ·as_aux_lemma =>
         have him2 : i < l.length := by rw [HLl.o]; exact him
         have him3 : i < M.length := by rw [HLm.o]; exact him
         have hlm2 : least < m := by have h9 := HC.o; have := HC.o.le; rcases Nat.eq_zero_or_pos left with h0 | h0; have := (h9.none h0).1; omega; have := h9.some h0; omega
         have hlm3 : least < l.length := by rw [HLl.o]; exact hlm2
         have j1 : (0 : Int) <= (i : Int) := by omega
         have j2 : (i : Int) < (m : Int) := by omega
         have j3 : (0 : Int) <= (least : Int) := by omega
         have j4 : (least : Int) < (m : Int) := by omega
         have e0x := Nm.o.get i him2; obtain ⟨s_x, a_x, n_x, c_x, d0x, d1x, h_x⟩ := Nm.o.ent i c him2 (by omega); have Sxx : Hid (Sz b' (ent M i c)) := hZ (HSb.o i c); have hlx := Nm.o.row_lt i him2; obtain ⟨x, hxx⟩ := eX (ent M i c); rw [hxx] at h_x Sxx; have Hxx := hZ hxx; have Vx := hZ h_x; clear hxx h_x; obtain ⟨gx, hgx⟩ := eX (l[i].1); obtain ⟨ox, hox⟩ := eX (l[i].2.1); obtain ⟨kx, hkx⟩ := eX (l[i].2.2); simp only [hgx, hox, hkx] at e0x d0x d1x hlx; clear hgx hox hkx
         go_wp2_with fail
         clear e0x d0x d1x; refine (qK2 w1 s_x a_x n_x c_x x Vx.o).mono ?_; rintro e w2 ⟨rfl, hB⟩; replace Nm := Nm.b hB; replace Vx := Vx.b hB; replace HO := HO.b hB; clear hB; by_cases hx0 : x = 0
         ·as_aux_lemma =>
          rw [decide_eq_true hx0]
          go_wp2_with fail
          go_roundw
          case rel => exact ⟨i + 1, left, least, by go_num, rfl, rfl, by omega, by omega, hlm, hZ (HC.o.zero him3 (Hxx.o.trans hx0)), Nm, HO⟩
          case measure => simp [intOf]; omega
         ·as_aux_lemma =>
          rw [decide_eq_false hx0]; obtain ⟨L1, hL1⟩ := eX ((left : Int) + 1); have hw1 : IntKind.i64.wrap ((left : Int) + 1) = L1 := by rw [IntWalk.i64_in _ (by omega)]; exact hL1
          have HL1 : Hid (L1 = ((left + 1 : Nat) : Int)) := hZ (by omega); have HNz : Hid (ent M i c ≠ 0) := hZ (by rw [Hxx.o]; exact hx0); have hL0 : 0 < L1 /\ L1 <= 1001 := by omega
          by_cases hl0 : left = 0
          ·as_aux_lemma =>
           have b1 : (L1 == 1) = true := by simp; omega
           go_wp2_with fail
           obtain ⟨w3, hwd⟩ := eX w2.drew; have hB := dB hwd; replace Nm := Nm.b hB; replace Vx := Vx.b hB; replace HO := HO.b hB; clear hB; have HBr : Hid (qAb (fun b => False) w3 w3) := hZ (qAb.refl _ _); refine qAs [] (fun w' => qAb (fun b => False) w3 w') (by kernel_rfl) (by rw [hwd]; exact qAb.refl _ _) (fun hHeld => ?_); rw [hwd] at hHeld ⊢; clear hwd; refine pU 0 46 ?_; refine pU 1 47 ?_; refine pU 2 48 ?_; refine sU 3 49 ?_; refine sU 4 50 ?_; refine sU 5 51 ?_; refine sU 6 52 ?_; refine sU 7 53 ?_; refine sU 8 54 ?_; refine sU 9 55 ?_; refine sU 10 56 ?_; refine sU 11 57 ?_; refine sU 12 58 ?_; refine sU 13 59 ?_; refine sU 14 60 ?_; refine sU 15 61 ?_; refine sU 16 62 ?_; refine sU 17 63 ?_; refine sU 18 64 ?_; refine sU 19 65 ?_; refine sU 20 66 ?_; refine pU 21 67 ?_; refine dU ?_; clear hHeld
           go_wp2_with fail
           go_roundw
           case rel => exact ⟨i + 1, left + 1, i, by go_num, by rw [hl0]; rfl, rfl, by omega, by omega, by omega, hZ (by have h9 := HC.o.step him3 HNz.o; rw [if_pos (.inl (by omega))] at h9; exact h9), Nm, HO⟩
           case measure => simp [intOf]; omega
          ·as_aux_lemma =>
           have b1 : (L1 == 1) = false := by simp; omega
           have hll := HC.o.some (by omega); have HLs := hZ hll; clear hll
           go_wp2_with fail
           obtain ⟨w3, hwd⟩ := eX w2.drew; have hB := dB hwd; replace Nm := Nm.b hB; replace Vx := Vx.b hB; replace HO := HO.b hB; clear hB; have HBr : Hid (qAb (fun b => False) w3 w3) := hZ (qAb.refl _ _); refine qAs [] (fun w' => qAb (fun b => False) w3 w') (by kernel_rfl) (by rw [hwd]; exact qAb.refl _ _) (fun hHeld => ?_); rw [hwd] at hHeld ⊢; clear hwd; have e0x := Nm.o.get i him2; have HG : Hid (∃ s a k cc, w3.cell? ⟨l[i].1, l[i].2.1 + c * 2, none⟩ = some (.bool s) /\ w3.cell? ⟨l[i].1, l[i].2.1 + c * 2 + 1, none⟩ = some (.slice a k cc) /\ qAH w3 (.agg #[.bool s, .slice a k cc]) (ent M i c)) := hZ (Nm.o.ent i c him2 (by omega)); obtain ⟨s_u, a_u, n_u, c_u, d0u, d1u, h_u⟩ := HG.o; rw [Hxx.o] at h_u; have Vu := hZ h_u; have hlu := Nm.o.row_lt i him2; clear h_u HG Vx; obtain ⟨gu, hgu⟩ := eX (l[i].1); obtain ⟨ou, hou⟩ := eX (l[i].2.1); obtain ⟨ku, hku⟩ := eX (l[i].2.2); simp only [hgu, hou, hku] at e0x d0u d1u hlu; clear hgu hou hku; have hlR := Nm.o.lt; have e0y := Nm.o.get least hlm3; obtain ⟨s_y, a_y, n_y, c_y, d0y, d1y, h_y⟩ := Nm.o.ent least c hlm3 (by omega); have Sxy : Hid (Sz b' (ent M least c)) := hZ (HSb.o least c); have hly := Nm.o.row_lt least hlm3; obtain ⟨y, hxy⟩ := eX (ent M least c); rw [hxy] at h_y Sxy; have Hxy := hZ hxy; have Vy := hZ h_y; clear hxy h_y; obtain ⟨gy, hgy⟩ := eX (l[least].1); obtain ⟨oy, hoy⟩ := eX (l[least].2.1); obtain ⟨ky, hky⟩ := eX (l[least].2.2); simp only [hgy, hoy, hky] at e0y d0y d1y hly; clear hgy hoy hky; refine pU 0 46 ?_; refine pU 1 47 ?_; refine pU 2 48 ?_; refine pU 3 49 ?_; refine pU 4 50 ?_; refine pU 5 51 ?_; refine tU 6 52 (cF e0x hlR) ?_; refine pU 7 53 ?_; refine pU 8 54 ?_; refine tV 9 55 (cF d0u hlu) (cF d1u hlu) ?_; refine pU 11 57 ?_; refine pU 12 58 ?_; refine pU 13 59 ?_; refine tU 14 60 (cF e0y hlR) ?_; refine pU 15 61 ?_; refine pU 16 62 ?_; refine tV 17 63 (cF d0y hly) (cF d1y hly) ?_; clear e0x d0u d1u hlu e0y d0y d1y hly hlR; refine eU 10 fun K hK => ?_; go_simp; refine (qL3 w3 s_u a_u n_u c_u x b' Vu.o Sxx.o (by omega)).mono ?_; rintro e w4 ⟨s_p, a_p, n_p, c_p, rfl, h_p, hB⟩; have Vp := hZ h_p; replace HBr := oT HBr hB; replace Nm := Nm.b hB; replace Vu := Vu.b hB; replace Vy := Vy.b hB; replace HO := HO.b hB; clear hB; clear h_p; refine hK.out _ _ HBr.o (fun hHeld => ?_); clear hK K
           try simp only [Act.put, sX1, sX2, sX3]
           refine eU 18 fun K hK => ?_; go_simp; refine (qL3 w4 s_y a_y n_y c_y y b' Vy.o Sxy.o (by omega)).mono ?_; rintro e w5 ⟨s_q, a_q, n_q, c_q, rfl, h_q, hB⟩; have Vq := hZ h_q; replace HBr := oT HBr hB; replace Nm := Nm.b hB; replace Vu := Vu.b hB; replace Vy := Vy.b hB; replace Vp := Vp.b hB; replace HO := HO.b hB; clear hB; clear h_q; refine hK.out _ _ HBr.o (fun hHeld => ?_); clear hK K
           try simp only [Act.put, sX1, sX2, sX3]
           refine eU 19 fun K hK => ?_; go_simp; refine (qMP (w := w5) (k := b') (l := b') Vp.o Vq.o (Sxx.o.of_le (by simp)) (Sxy.o.of_le (by simp)) (by omega) (by omega)).mono ?_; rintro e w6 ⟨rfl, hB⟩; replace HBr := oT HBr hB; replace Nm := Nm.b hB; replace Vu := Vu.b hB; replace Vy := Vy.b hB; replace Vp := Vp.b hB; replace Vq := Vq.b hB; replace HO := HO.b hB; clear hB; obtain ⟨cv, hcv⟩ := eX (qAK (x.natAbs : Int) (y.natAbs : Int)); rw [hcv]; have hcl : cv < 0 ↔ x.natAbs < y.natAbs := by rw [<- hcv]; exact qKf x y
           clear hcv; refine hK.out _ _ HBr.o (fun hHeld => ?_); clear hK K
           try simp only [Act.put, sX1, sX2, sX3]
           by_cases hcn : cv < 0
           ·as_aux_lemma =>
            have b2 : decide (cv < 0) = true := decide_eq_true hcn; refine pU 20 66 ?_; refine pU 21 67 ?_; refine dU ?_; clear hHeld
            go_wp2_with fail
            go_roundw
            case rel => exact ⟨i + 1, left + 1, i, by go_num, by rw [HL1.o], rfl, by omega, by omega, by omega, hZ (by have h9 := HC.o.step him3 HNz.o; rw [if_pos (.inr (by rw [Hxx.o, Hxy.o]; omega))] at h9; exact h9), Nm, HO⟩
            case measure => simp [intOf]; omega
           ·as_aux_lemma =>
            have b2 : decide (cv < 0) = false := decide_eq_false hcn; refine pU 20 66 ?_; refine pU 21 67 ?_; refine dU ?_; clear hHeld
            go_wp2_with fail
            go_roundw
            case rel => exact ⟨i + 1, left + 1, least, by go_num, by rw [HL1.o], rfl, by omega, by omega, by omega, hZ (by have h9 := HC.o.step him3 HNz.o; rw [if_neg (by rw [Hxx.o, Hxy.o]; omega)] at h9; exact h9), Nm, HO⟩
            case measure => simp [intOf]; omega
        ·as_aux_lemma =>
         obtain rfl : i = m := by omega
         have HCm : Hid (qGi M top c M.length left least) := hZ (by rw [HLm.o]; exact HC.o); have HLt : Hid (top <= least /\ least < M.length) := hZ (HCm.o.least_lt (by rw [HLm.o]; exact htm)); have ht2 : top < l.length := by rw [HLl.o]; exact htm
         have hle2 : least < l.length := by have := HLt.o; rw [HLl.o]; rw [HLm.o] at this; omega
         have ht3 : top < M.length := by rw [HLm.o]; exact htm
         have hle3 : least < M.length := HLt.o.2; have k1 : (0 : Int) <= (top : Int) := by omega
         have k2 : (0 : Int) <= (least : Int) := by omega
         have k3 : (least : Int) < (i : Int) := by rw [HLl.o] at hle2; omega
         have HNs := hZ (Nm.o.swap ht2 hle2 ht3 hle3); have e0t := Nm.o.get top ht2; have e0l := Nm.o.get least hle2; have f1 := Nm.o.frozen top; have f2 := Nm.o.frozen least; have HEs := hZ (HE.o.swap ht3 hle3 (Nat.le_refl _) HLt.o.1); have HPv : Hid ((left <= 1 /\ qDf (qAt M top least ht3 hle3) top c (eb b i top) b' left 0) \/ (2 <= left /\ qLG (qAt M top least ht3 hle3) top c (eb b i top) b' gk)) := hZ (by
          by_cases h0 : left = 0
          ·exact .inl ⟨by omega, HH.o.end0 (by omega) HCm.o h0 ht3 hle3⟩
          ·by_cases h1 : left = 1
           ·exact .inl ⟨by omega, HH.o.end1 (by omega) HCm.o h1 ht3 hle3⟩
           ·exact .inr ⟨by omega, HH.o.piv (by omega) HCm.o (by omega) ht3 hle3⟩)
         have hgk : 0 < gk := by rcases HH.o with ⟨-, h9, -⟩ | ⟨h9, -⟩ | ⟨h9, -⟩ <;> omega
         have HBs := hZ (HBl.o.swap ht2 hle2); have HLs1 : Hid ((qAt l top least ht2 hle2).length = i /\ (qAt M top least ht3 hle3).length = i) := hZ ⟨by rw [qAc]; exact HLl.o, by rw [qAc]; exact HLm.o⟩; generalize qAt M top least ht3 hle3 = M1 at *; generalize qAt l top least ht2 hle2 = l1 at *; obtain ⟨gt, hgt⟩ := eX (l[top].1); obtain ⟨ot, hot⟩ := eX (l[top].2.1); obtain ⟨kt, hkt⟩ := eX (l[top].2.2); obtain ⟨gl, hgl⟩ := eX (l[least].1); obtain ⟨ol, hol⟩ := eX (l[least].2.1); obtain ⟨kl, hkl⟩ := eX (l[least].2.2); rw [hgt, hot, hkt] at e0t; rw [hgl, hol, hkl] at e0l; rw [hgt, hot, hkt, hgl, hol, hkl] at HNs; clear hgt hot hkt hgl hol hkl; have ho9 : qAb (fun g => g = R) w1 ((w1.setCell ⟨R, top, none⟩ (.slice (some ⟨gl, ol, none⟩) n kl)).setCell ⟨R, least, none⟩ (.slice (some ⟨gt, ot, none⟩) n kt)) := (qB0 w1 R top _).trans (qB0 _ R least _); obtain ⟨u9, e9⟩ : ∃ u, (w1.setCell ⟨R, top, none⟩ (.slice (some ⟨gl, ol, none⟩) n kl)).cell? ⟨R, least, none⟩ = some u := by rw [qBv e0t]; split; exact ⟨_, rfl⟩; exact ⟨_, e0l⟩
         obtain ⟨w3, hw⟩ := eX ((w1.setCell ⟨R, top, none⟩ (.slice (some ⟨gl, ol, none⟩) n kl)).setCell ⟨R, least, none⟩ (.slice (some ⟨gt, ot, none⟩) n kt)); rw [hw] at HNs ho9; replace HO := hZ (HO.o.trans ho9); clear ho9 Nm HE HH HBl HC HCm HLm HLl HLt ht2 hle2 ht3 hle3 HSb
         go_wp2_with fail
         try clear hw
         try skip
         clear e0t e0l f1 f2; have HRd : Hid (qDh M1 top c (top + 1) M1) := hZ qDh.start
         go_loopw [12] (fun iv wr => ∃ (t : Nat) (l : List Nw) (M2 : List (List Int)), iv = .int .i64 t /\ top + 1 <= t /\ t <= i /\ Hid (left <= 1 -> t = top + 1) /\ Hid (qDh M1 top c t M2) /\ Hid (NMt wr B0 R cR i l n M2) /\ Hid (qHT w0.heap.size l0 l) /\ Hid (qAb (fun g => g = R) w0 wr)) (fun iv _ => i - (intOf iv).toNat)
         case atStart => exact ⟨top + 1, l1, M1, by go_num, by omega, by omega, hZ (fun _ => rfl), HRd, HNs, HBs, HO⟩
         case round =>
          clear HRd HNs HBs HO; obtain ⟨t, l, M2, rfl, htt, hti, Ht1, HRd, Nm, HBs, HO⟩ := hrel; obtain ⟨w1, rfl⟩ := eY wr; have HL2 : Hid (M2.length = i) := hZ Nm.o.len; have HLl : Hid (l.length = i) := hZ Nm.o.lenl; rcases Nat.lt_or_ge left 2 with hl2 | hl2
          ·as_aux_lemma =>
           have n1 : ¬ (1 : Int) < (left : Int) := by omega
           have HM := hZ HRd.o; by_cases htl : t < i
           ·as_aux_lemma =>
            have n2 : (t : Int) < (i : Int) := by omega
            go_wp2_with fail
            go_roundg 0
            case measure => omega
            case rel =>
             rcases HPv.o with ⟨-, h9⟩ | ⟨h9, -⟩
             ·have h8 := HRd.o
              rw [Ht1.o (by omega)] at h8; have h7 := h8.eq_; subst h7; exact ⟨left, l, M2, rfl, by omega, HEs, hZ h9, Nm, HBs, HO⟩
             ·omega
           ·as_aux_lemma =>
            have n2 : ¬ (t : Int) < (i : Int) := by omega
            go_wp2_with fail
            go_roundg 0
            case measure => omega
            case rel =>
             rcases HPv.o with ⟨-, h9⟩ | ⟨h9, -⟩
             ·have h8 := HRd.o
              rw [Ht1.o (by omega)] at h8; have h7 := h8.eq_; subst h7; exact ⟨left, l, M2, rfl, by omega, HEs, hZ h9, Nm, HBs, HO⟩
             ·omega
          ·as_aux_lemma =>
           have n1 : (1 : Int) < (left : Int) := by omega
           have HP : Hid (qLG M1 top c (eb b i top) b' gk) := hZ (by rcases HPv.o with ⟨h9, -⟩ | ⟨-, h9⟩; omega; exact h9); have ht1 : top < M1.length := by rw [HLs1.o.2]; exact htm
           have HRow := hZ HEs.o.row; by_cases htl : t < i
           ·as_aux_lemma =>
            have n2 : (t : Int) < (i : Int) := by omega
            have n3 : (0 : Int) <= (t : Int) := by omega
            have htl2 : t < l.length := by rw [HLl.o]; exact htl
            have htl3 : t < M1.length := by rw [HLs1.o.2]; exact htl
            have htl4 : t < M2.length := by rw [HL2.o]; exact htl
            have htp2 : top < l.length := by rw [HLl.o]; exact htm
            have htp4 : top < M2.length := by rw [HL2.o]; exact htm
            have HSb : Hid (∀ r ∈ M2, ∀ x ∈ r, Sz b' x) := hZ (HP.o.fin HRow.o ht1 HRd.o); have HEt : Hid (ent M2 t c = ent M1 t c) := hZ (HRd.o.ent_same t (.inr (Nat.le_refl _)) c); have HEp : Hid (ent M2 top c = ent M1 top c) := hZ (HRd.o.ent_same top (.inl (Nat.le_refl _)) c); obtain ⟨x, hx⟩ := eX (ent M1 t c); obtain ⟨y, hy⟩ := eX (ent M1 top c); have Sx : Hid (Sz b' x) := hZ (by rw [<- hx, <- HEt.o]; exact qJc HSb.o _ _); have Sy : Hid (Sz b' y) := hZ (by rw [<- hy, <- HEp.o]; exact qJc HSb.o _ _); have hy0 : y ≠ 0 := by rw [<- hy]; exact HP.o.nz
            rw [hx] at HEt; rw [hy] at HEp; have Hxy := hZ (And.intro hx hy); clear hx hy; have HCt := hZ (Nm.o.ent t c htl2 (by omega)); have HCp := hZ (Nm.o.ent top c htp2 (by omega)); have HGt := hZ (Nm.o.get t htl2); have HGp := hZ (Nm.o.get top htp2); have Hlt := hZ (And.intro (Nm.o.row_lt t htl2) (And.intro (Nm.o.row_lt top htp2) Nm.o.lt)); rw [HEt.o] at HCt; rw [HEp.o] at HCp; have HNt := hZ (Nm.o.row t htl2 htl4); have HNp := hZ (Nm.o.row top htp2 htp4); have HMt : Hid (M2[t]'htl4 = M1[t]'htl3) := hZ (HRd.o.same t htl3 htl4 (.inr (Nat.le_refl _))); have HMp : Hid (M2[top]'htp4 = M1[top]'ht1) := hZ (HRd.o.same top ht1 htp4 (.inl (Nat.le_refl _))); rw [HMt.o] at HNt; rw [HMp.o] at HNp; obtain ⟨gx, hgx⟩ := eX (l[t].1); obtain ⟨ox, hox⟩ := eX (l[t].2.1); obtain ⟨kx, hkx⟩ := eX (l[t].2.2); obtain ⟨gp, hgp⟩ := eX (l[top].1); obtain ⟨op, hop⟩ := eX (l[top].2.1); obtain ⟨kp, hkp⟩ := eX (l[top].2.2); rw [show l[t] = (gx, ox, kx) by rw [<- hgx, <- hox, <- hkx]] at HCt HGt Hlt HNt; rw [show l[top] = (gp, op, kp) by rw [<- hgp, <- hop, <- hkp]] at HCp HGp Hlt HNp; have Htl : Hid (l[t] = (gx, ox, kx) /\ l[top] = (gp, op, kp)) := hZ ⟨by rw [<- hgx, <- hox, <- hkx], by rw [<- hgp, <- hop, <- hkp]⟩; clear hgx hox hkx hgp hop hkp; simp only [] at HCt HGt HCp HGp Hlt
            go_wp2_with fail
            refine qB4 (fun t ds a w' => ∃ v97 v98 v99 v100 v101 v102 v103 v104 v105 v106 v107 v108 v109 v110 v111 v96 v112 v113 b13 b14, a = ⟨((((((((((((((((((((t).setIfInBounds 13 (.pointer (some ⟨b13, 0, none⟩))).setIfInBounds 14 (.pointer (some ⟨b14, 0, none⟩))).setIfInBounds 97 v97).setIfInBounds 98 v98).setIfInBounds 99 v99).setIfInBounds 100 v100).setIfInBounds 101 v101).setIfInBounds 102 v102).setIfInBounds 103 v103).setIfInBounds 104 v104).setIfInBounds 105 v105).setIfInBounds 106 v106).setIfInBounds 107 v107).setIfInBounds 108 v108).setIfInBounds 109 v109).setIfInBounds 110 v110).setIfInBounds 111 v111).setIfInBounds 96 v96).setIfInBounds 112 v112).setIfInBounds 113 v113, ds⟩ /\ Hid (Bn w' b13 (x / y)) /\ Hid (Below w1.heap.size w1 w') /\ Hid (w1.heap.size <= b13)) ?_ ?_
            ·as_aux_lemma =>
             have HJ := hZ (Below.refl w1.heap.size w1); obtain ⟨w2, hwd⟩ := eX w1.drew; have hB := dB hwd; replace HJ := bT HJ hB; clear hB; have HBr : Hid (qAb (fun b => w2.heap.size <= b) w2 w2) := hZ (qAb.refl _ _); refine qAs [20, 21] (fun w' => qAb (fun b => w2.heap.size <= b) w2 w') (by kernel_rfl) (by rw [hwd]; exact qAb.refl _ _) (fun hHeld => ?_); rw [hwd] at hHeld ⊢; clear hwd; obtain ⟨s_x, a_x, n_x, c_x, d0x, d1x, h_x⟩ := HCt.o; obtain ⟨s_y, a_y, n_y, c_y, d0y, d1y, h_y⟩ := HCp.o; replace d0x := (HJ.o.cell (p := ⟨gx, ox + c * 2, none⟩) Hlt.o.1).trans d0x; replace d1x := (HJ.o.cell (p := ⟨gx, ox + c * 2 + 1, none⟩) Hlt.o.1).trans d1x; replace d0y := (HJ.o.cell (p := ⟨gp, op + c * 2, none⟩) Hlt.o.2.1).trans d0y; replace d1y := (HJ.o.cell (p := ⟨gp, op + c * 2 + 1, none⟩) Hlt.o.2.1).trans d1y; have e0 := (HJ.o.cell (p := ⟨R, t, none⟩) Hlt.o.2.2).trans HGt.o; have e1 := (HJ.o.cell (p := ⟨R, top, none⟩) Hlt.o.2.2).trans HGp.o; have Vx := hZ (h_x.blw HJ.o); have Vy := hZ (h_y.blw HJ.o); have m0 := Nat.lt_of_lt_of_le Hlt.o.1 HJ.o.size; have m1 := Nat.lt_of_lt_of_le Hlt.o.2.1 HJ.o.size; have m2 := Nat.lt_of_lt_of_le Hlt.o.2.2 HJ.o.size; clear h_x h_y; refine pU 0 97 ?_; refine pU 1 98 ?_; refine pU 2 99 ?_; refine tU 3 100 (cT (Nat.not_le_of_lt m2) e0 m2) ?_; refine pU 4 101 ?_; refine pU 5 102 ?_; refine tV 6 103 (cT (Nat.not_le_of_lt m0) d0x m0) (cT (Nat.not_le_of_lt m0) d1x m0) ?_; refine pU 7 104 ?_; refine pU 8 105 ?_; refine pU 9 106 ?_; refine tU 10 107 (cT (Nat.not_le_of_lt m2) e1 m2) ?_; refine pU 11 108 ?_; refine pU 12 109 ?_; refine tV 13 110 (cT (Nat.not_le_of_lt m1) d0y m1) (cT (Nat.not_le_of_lt m1) d1y m1) ?_; clear e0 e1 d0x d1x d0y d1y m0 m1 m2; have HJs : Hid (w1.heap.size <= w2.heap.size) := hZ HJ.o.size; refine qLl [14, 18, 19] [15, 16, 17] [(15, 14), (16, 15), (17, 15)] 6 (fun t ds p a w => ∃ v111 v13 v14 v96 v112 v113 b13 b14, a = ⟨((((((t).setIfInBounds 111 v111).setIfInBounds 13 v13).setIfInBounds 14 v14).setIfInBounds 96 v96).setIfInBounds 112 v112).setIfInBounds 113 v113, ds⟩ /\ Hid (Below w2.heap.size w2 w) /\ (p 14 = true -> Hid (qIu w v111 x y)) /\ (p 18 = true -> v13 = .pointer (some ⟨b13, 0, none⟩) /\ Hid (Bn w b13 0) /\ Hid (w2.heap.size <= b13)) /\ (p 19 = true -> v14 = .pointer (some ⟨b14, 0, none⟩) /\ Hid (Bn w b14 0) /\ Hid (w2.heap.size <= b14)) /\ (p 15 = true -> Hid (qIu w v96 x y)) /\ (p 16 = true -> Hid (qAH w v112 (x / y))) /\ (p 17 = true -> Hid (qAH w v113 (x % y))) /\ (p 18 = true -> p 19 = true -> b13 ≠ b14)) ?_ (by kernel_rfl) (by decide) rfl rfl (by kernel_rfl) ⟨?_, ?_, ?_, trivial⟩ ⟨?_, ?_, ?_, trivial⟩ ?_
             ·exact ⟨_, _, _, _, _, _, 0, 0, by first | rfl | (simp only [sX1, sX2, sX3]; rfl), hZ (Below.refl _ _), nofun, nofun, nofun, nofun, nofun, nofun, nofun⟩
             ·as_aux_lemma =>
              intro p a w3 hJ hp; obtain ⟨v111, v13, v14, v96, v112, v113, b13, b14, rfl, HBw, g14, g18, g19, g15, g16, g17, n1819⟩ := hJ; simp only [sX1, sX2, sX3]; refine qAW 14 rfl (fun K hK => ?_); replace Vx := hZ (Vx.o.blw HBw.o); replace Vy := hZ (Vy.o.blw HBw.o); go_simp; refine (qMz (w := w3) Vx.o Vy.o hy0 Sx.o Sy.o (by omega) (by omega)).mono ?_; rintro e w4 ⟨s_u, a_u, n_u, c_u, s_t, a_t, n_t, c_t, rfl, h_u, h_t, hB⟩; exact hK.out _ _ (HBr.o.trans (qAb.of_below (HBw.o.trans (hB.mono HBw.o.size)))) ⟨_, v13, v14, v96, v112, v113, b13, b14, by first | (simp only [Act.put]; done) | (simp only [sX1, sX2, sX3]; rfl), hZ (HBw.o.trans (hB.mono HBw.o.size)), fun _ => hZ (⟨_, _, _, _, _, _, _, _, rfl, h_u, h_t⟩), fun h => ⟨(g18 h).1, hZ ((g18 h).2.1.o.blw hB), (g18 h).2.2⟩, fun h => ⟨(g19 h).1, hZ ((g19 h).2.1.o.blw hB), (g19 h).2.2⟩, fun h => hZ ((g15 h).o.blw hB), fun h => hZ ((g16 h).o.blw hB), fun h => hZ ((g17 h).o.blw hB), n1819⟩
             ·as_aux_lemma =>
              intro p a w3 hJ hp; obtain ⟨v111, v13, v14, v96, v112, v113, b13, b14, rfl, HBw, g14, g18, g19, g15, g16, g17, n1819⟩ := hJ; simp only [sX1, sX2, sX3]; refine qAW 18 rfl (fun K hK => ?_); go_simp; obtain ⟨w4, hw⟩ := eX (w3.alloc (.cells #[.bool false, .slice none 0 0] 61)); have hB := aB hw; have hx : Hid (Bn w4 w3.heap.size 0) := hZ (by rw [<- hw]; exact Bn.new (qCb _)); rw [hw]; clear hw; exact hK.out _ _ (HBr.o.trans (qAb.of_below (HBw.o.trans (hB.mono HBw.o.size)))) ⟨v111, _, v14, v96, v112, v113, w3.heap.size, b14, by first | (simp only [Act.put]; done) | (simp only [sX1, sX2, sX3]; rfl), hZ (HBw.o.trans (hB.mono HBw.o.size)), fun h => hZ ((g14 h).o.blw hB), fun _ => ⟨rfl, hx, hZ HBw.o.size⟩, fun h => ⟨(g19 h).1, hZ ((g19 h).2.1.o.blw hB), (g19 h).2.2⟩, fun h => hZ ((g15 h).o.blw hB), fun h => hZ ((g16 h).o.blw hB), fun h => hZ ((g17 h).o.blw hB), fun _ h => by have := (g19 h).2.1.o.lt; omega⟩
             ·as_aux_lemma =>
              intro p a w3 hJ hp; obtain ⟨v111, v13, v14, v96, v112, v113, b13, b14, rfl, HBw, g14, g18, g19, g15, g16, g17, n1819⟩ := hJ; simp only [sX1, sX2, sX3]; refine qAW 19 rfl (fun K hK => ?_); go_simp; obtain ⟨w4, hw⟩ := eX (w3.alloc (.cells #[.bool false, .slice none 0 0] 61)); have hB := aB hw; have hx : Hid (Bn w4 w3.heap.size 0) := hZ (by rw [<- hw]; exact Bn.new (qCb _)); rw [hw]; clear hw; exact hK.out _ _ (HBr.o.trans (qAb.of_below (HBw.o.trans (hB.mono HBw.o.size)))) ⟨v111, v13, _, v96, v112, v113, b13, w3.heap.size, by first | (simp only [Act.put]; done) | (simp only [sX1, sX2, sX3]; rfl), hZ (HBw.o.trans (hB.mono HBw.o.size)), fun h => hZ ((g14 h).o.blw hB), fun h => ⟨(g18 h).1, hZ ((g18 h).2.1.o.blw hB), (g18 h).2.2⟩, fun _ => ⟨rfl, hx, hZ HBw.o.size⟩, fun h => hZ ((g15 h).o.blw hB), fun h => hZ ((g16 h).o.blw hB), fun h => hZ ((g17 h).o.blw hB), fun h _ => by have := (g18 h).2.1.o.lt; omega⟩
             ·as_aux_lemma =>
              intro p a w3 hJ hp; obtain ⟨v111, v13, v14, v96, v112, v113, b13, b14, rfl, HBw, g14, g18, g19, g15, g16, g17, n1819⟩ := hJ; have Vd := g14 (hp 14 (by simp)); obtain ⟨s_i, a_i, n_i, c_i, s_j, a_j, n_j, c_j, rfl, h_i, h_j⟩ := Vd.o; simp only [sX1, sX2, sX3]; refine qCl 15 96 (v := ?_) rfl rfl (fun _ _ _ h => h) (by rfl) ?_ ?_; rotate_left
              ·(intro w; go_simp; first | done | with_reducible rfl)
              simp only [sX1, sX2, sX3]; exact ⟨_, v13, v14, _, v112, v113, b13, b14, by first | rfl | (simp only [sX1, sX2, sX3]; rfl), HBw, g14, g18, g19, fun _ => hZ (⟨_, _, _, _, _, _, _, _, rfl, h_i, h_j⟩), g16, g17, n1819⟩
             ·as_aux_lemma =>
              intro p a w3 hJ hp; obtain ⟨v111, v13, v14, v96, v112, v113, b13, b14, rfl, HBw, g14, g18, g19, g15, g16, g17, n1819⟩ := hJ; have Vm := g15 (hp 15 (by simp)); obtain ⟨s_k, a_k, n_k, c_k, s_l, a_l, n_l, c_l, rfl, h_k, h_l⟩ := Vm.o; simp only [sX1, sX2, sX3]; refine qCl 16 112 (v := ?_) rfl rfl (fun _ _ _ h => h) (by rfl) ?_ ?_; rotate_left
              ·(intro w; go_simp; first | done | with_reducible rfl)
              simp only [sX1, sX2, sX3]; exact ⟨v111, v13, v14, _, _, v113, b13, b14, by first | rfl | (simp only [sX1, sX2, sX3]; rfl), HBw, g14, g18, g19, g15, fun _ => hZ (h_k), g17, n1819⟩
             ·as_aux_lemma =>
              intro p a w3 hJ hp; obtain ⟨v111, v13, v14, v96, v112, v113, b13, b14, rfl, HBw, g14, g18, g19, g15, g16, g17, n1819⟩ := hJ; have Vm := g15 (hp 15 (by simp)); obtain ⟨s_k, a_k, n_k, c_k, s_l, a_l, n_l, c_l, rfl, h_k, h_l⟩ := Vm.o; simp only [sX1, sX2, sX3]; refine qCl 17 113 (v := ?_) rfl rfl (fun _ _ _ h => h) (by rfl) ?_ ?_; rotate_left
              ·(intro w; go_simp; first | done | with_reducible rfl)
              simp only [sX1, sX2, sX3]; exact ⟨v111, v13, v14, _, v112, _, b13, b14, by first | rfl | (simp only [sX1, sX2, sX3]; rfl), HBw, g14, g18, g19, g15, g16, fun _ => hZ (h_l), n1819⟩
             ·as_aux_lemma =>
              intro p a w3 hJ hp; obtain ⟨v111, v13, v14, v96, v112, v113, b13, b14, rfl, HBw, g14, g18, g19, g15, g16, g17, n1819⟩ := hJ; have Vd := g14 (hp 14 (by simp)); obtain ⟨s_i, a_i, n_i, c_i, s_j, a_j, n_j, c_j, rfl, h_i, h_j⟩ := Vd.o; obtain ⟨rfl, Fq, hge_b13⟩ := g18 (hp 18 (by simp)); replace hge_b13 : w2.heap.size <= b13 := Nat.le_trans HBr.o.size hge_b13.o; obtain ⟨rfl, Fr, hge_b14⟩ := g19 (hp 19 (by simp)); replace hge_b14 : w2.heap.size <= b14 := Nat.le_trans HBr.o.size hge_b14.o; have Vm := g15 (hp 15 (by simp)); obtain ⟨s_k, a_k, n_k, c_k, s_l, a_l, n_l, c_l, rfl, h_k, h_l⟩ := Vm.o; have Vq := g16 (hp 16 (by simp)); obtain ⟨s_q, a_q, n_q, c_q, rfl⟩ := Vq.o.form2; have Vr := g17 (hp 17 (by simp)); obtain ⟨s_r, a_r, n_r, c_r, rfl⟩ := Vr.o.form2; replace n1819 := n1819 (hp 18 (by simp)) (hp 19 (by simp)); clear g14 g18 g19 g15 g16 g17; replace HBr := hZ (HBr.o.trans (qAb.of_below HBw.o)); have hB := HBw.o; simp only [sX1, sX2, sX3]; clear HBw; replace Vx := Vx.b hB; replace Vy := Vy.b hB; replace HJ := bT HJ hB; clear hB; obtain ⟨s_9, a_9, n_9, c_9, t_9, -⟩ := Fq.o; have e0 := t_9.cell0; have e1 := t_9.cell1; have e2 := t_9.frozen 0; have e3 := t_9.frozen 1; clear t_9; have hn9 : qA1 w3 (b13) := Fq.o.noInt; obtain ⟨w4, hw⟩ := eX ((w3.setCell ⟨b13, 0, none⟩ (.bool s_q)).setCell ⟨b13, 1, none⟩ (.slice a_q n_q c_q)); have hw2 : st2 w3 (b13) (0) (1) s_q a_q n_q c_q = w4 := hw; replace Fq := hZ (Bn.put Fq.o Vq.o); rw [hw2] at Fq; replace Vx := hZ (Vx.o.offe hw2 hn9); replace Vy := hZ (Vy.o.offe hw2 hn9); replace Fr := hZ (Fr.o.offe hw2 hn9 (by omega)); replace Vq := hZ (Vq.o.offe hw2 hn9); replace Vr := hZ (Vr.o.offe hw2 hn9); replace HJ := hZ (bO hw2 HJ.o (by have := HJs.o; omega)); clear hw2 hn9; refine lU 20 fun K hK => ?_; go_simp
              try rw [hw]
              refine hK.out _ _ ?_; clear hK K
              try simp only [Act.put, sX1, sX2, sX3]
              clear hw e0 e1 e2 e3; obtain ⟨s_9, a_9, n_9, c_9, t_9, -⟩ := Fr.o; have e0 := t_9.cell0; have e1 := t_9.cell1; have e2 := t_9.frozen 0; have e3 := t_9.frozen 1; clear t_9; have hn9 : qA1 w4 (b14) := Fr.o.noInt; obtain ⟨w5, hw⟩ := eX ((w4.setCell ⟨b14, 0, none⟩ (.bool s_r)).setCell ⟨b14, 1, none⟩ (.slice a_r n_r c_r)); have hw2 : st2 w4 (b14) (0) (1) s_r a_r n_r c_r = w5 := hw; replace Fr := hZ (Bn.put Fr.o Vr.o); rw [hw2] at Fr; replace Vx := hZ (Vx.o.offe hw2 hn9); replace Vy := hZ (Vy.o.offe hw2 hn9); replace Fq := hZ (Fq.o.offe hw2 hn9 (by omega)); replace Vq := hZ (Vq.o.offe hw2 hn9); replace Vr := hZ (Vr.o.offe hw2 hn9); replace HJ := hZ (bO hw2 HJ.o (by have := HJs.o; omega)); clear hw2 hn9; refine lU 21 fun K hK => ?_; go_simp
              try rw [hw]
              refine hK.out _ _ ?_; clear hK K
              try simp only [Act.put, sX1, sX2, sX3]
              clear hw e0 e1 e2 e3; refine dU ?_; clear hHeld; refine qAp ⟨_, _, _, _, _, _, _, _, _, _, _, _, _, _, _, _, _, _, _, _, by first | rfl | (simp only [sX1, sX2, sX3]; rfl), Fq, HJ, hZ (by have := HJs.o; omega)⟩
            ·as_aux_lemma =>
             rintro a w2 ⟨v97, v98, v99, v100, v101, v102, v103, v104, v105, v106, v107, v108, v109, v110, v111, v96, v112, v113, b13, b14, rfl, Fq, HJ, Hb13⟩; simp only [sX1, sX2, sX3]; have hB := HJ.o; clear HJ Hb13; replace HCt := HCt; replace HNt := hZ (And.intro (HNt.o.1.blw hB) HNt.o.2); replace HNp := hZ (And.intro (HNp.o.1.blw hB) HNp.o.2); clear HCt HCp HGt HGp Hlt; replace Nm := Nm.b hB; replace HO := HO.b hB; clear hB; obtain ⟨z, hz⟩ := eX (x / y); rw [hz] at Fq; have Hz := hZ hz; have Sz_ : Hid (Sz (b' + 1) z) := hZ (hz ▸ Sx.o.div hy0); clear hz
             go_wp2_with fail
             have HNN := hZ (And.intro HNt.o HNp.o); have HD := hZ (Below.refl w2.heap.size w2); obtain ⟨w3, hwd⟩ := eX w2.drew; have hB := dB hwd; replace Nm := Nm.b hB; replace Fq := Fq.b hB; replace HD := bT HD hB; replace HO := HO.b hB; clear hB; have HBr : Hid (qAb (fun b => False) w3 w3) := hZ (qAb.refl _ _); refine qAs [13] (fun w' => qAb (fun b => False) w3 w') (by kernel_rfl) (by rw [hwd]; exact qAb.refl _ _) (fun hHeld => ?_); rw [hwd] at hHeld ⊢; clear hwd; replace HNt := hZ (And.intro (HNt.o.1.blw HD.o) HNt.o.2); replace HNp := hZ (And.intro (HNp.o.1.blw HD.o) HNp.o.2)
             skip
             clear HNN; have e0 := Nm.o.get t htl2; have e1 := Nm.o.get top htp2
             skip
             skip
             obtain ⟨s_q, a_q, n_q, c_q, t_q, h_q⟩ := Fq.o; have d0q := t_q.cell0; have d1q := t_q.cell1; have hlq := t_q.lt; have hlR := Nm.o.lt; have Vq := hZ h_q; clear t_q h_q; rw [Htl.o.1] at e0; rw [Htl.o.2] at e1; refine pU 0 114 ?_; refine pU 1 115 ?_; refine pU 2 116 ?_; refine pU 3 117 ?_; refine pU 4 118 ?_; refine tU 5 119 (cF e0 hlR) ?_; refine pU 6 120 ?_; refine pU 7 121 ?_; refine pU 8 122 ?_; refine tU 9 123 (cF e1 hlR) ?_; refine tV 10 124 (cF d0q hlq) (cF d1q hlq) ?_; clear e0 e1 d0q d1q hlq hlR; refine eU 11 fun K hK => ?_; go_simp; refine (qK3 w3 gx ox kx gp op kp n (b' + 1) s_q a_q n_q c_q z (M1[t]'htl3) (M1[top]'ht1) HNt.o.1 HNp.o.1 HNt.o.2 HNp.o.2 hn0 hn Vq.o (fun x hx => (HSb.o _ (HMt.o ▸ List.getElem_mem htl4) x hx).mono (by omega)) (fun x hx => (HSb.o _ (HMp.o ▸ List.getElem_mem htp4) x hx).mono (by omega)) Sz_.o (by omega)).mono ?_; rintro e w4 ⟨g9, c9, rfl, hr9, hge9, hc9, hc92, hB⟩; replace HBr := oT HBr hB; have Rr := hZ hr9; have HGe : Hid (∀ k (hk : k < l.length), l[k].1 < g9) := hZ (fun k hk => Nat.lt_of_lt_of_le (Nm.o.row_lt k hk) hge9); have HGR : Hid (R < g9) := hZ (Nat.lt_of_lt_of_le Nm.o.lt hge9); have HG0 : Hid (w0.heap.size <= g9) := hZ (Nat.le_trans HO.o.size hge9); clear Vq Fq HNt HNp HD; replace Nm := Nm.b hB; replace HO := HO.b hB; clear hB; clear hr9 hge9; refine hK.out _ _ HBr.o (fun hHeld => ?_); clear hK K
             try simp only [Act.put, sX1, sX2, sX3]
             refine pU 12 126 ?_; have e2 := Nm.o.frozen t; have e3 := Nm.o.get t htl2; obtain ⟨w5, hw⟩ := eX (w4.setCell ⟨R, t, none⟩ (.slice (some ⟨g9, 0, none⟩) n c9)); have HNn := hZ (Nm.o.put htl2 Rr.o (by rw [qA9]; exact HEs.o.row _ (List.getElem_mem _)) (fun k hk => by have := HGe.o k hk; omega) (by have := HGR.o; omega) hc9 hc92); rw [hw] at HNn; have ho9 := qB0 w4 R t (.slice (some ⟨g9, 0, none⟩) n c9); rw [hw] at ho9; replace HO := hZ (HO.o.trans ho9); clear ho9; refine lU 13 fun K hK => ?_; go_simp
             try rw [hw]
             refine hK.out _ _ ?_; clear hK K
             try simp only [Act.put, sX1, sX2, sX3]
             clear hw e2 e3 Nm Rr; refine dU ?_; clear hHeld
             go_wp2_with fail
             go_roundw
             case rel => exact ⟨t + 1, l.set t (g9, 0, c9), M2.set t (qCn (M1[t]'htl3) (M1[top]'ht1) z), by go_num, by omega, by omega, hZ (fun h => by omega), hZ (HRd.o.step (by omega) htl3 (by rw [List.getElem?_eq_getElem ht1, Option.getD_some, Hxy.o.1, Hxy.o.2, Hz.o])), HNn, hZ (HBs.o.set HG0.o), HO⟩
             case measure => simp [intOf]; omega
           ·as_aux_lemma =>
            obtain rfl : t = i := by omega
            have n2 : ¬ (t : Int) < (t : Int) := by omega
            go_wp2_with fail
            have HR9 : Hid (qDh M1 top c M1.length M2) := hZ (by rw [HLs1.o.2]; exact HRd.o)
            go_roundg (ent M1 top c).natAbs
            case measure => exact HP.o.lt
            case rel => exact ⟨left, l, M2, rfl, by omega, hZ (HEs.o.red ht1 HR9.o), hZ (HP.o.red HRow.o ht1 HR9.o hl2), Nm, HBs, HO⟩
   ·as_aux_lemma =>
    obtain rfl : top = m := by omega
    have c2 : ¬ (top : Int) < (top : Int) := by omega
    go_wp2_with fail
    exact bodyPost_ret (v := .tuple #[.slice (some ⟨R, 0, none⟩) top cR, .int .i64 top]) (by simp [results, Try.results41, go_sem]) rfl ⟨l, M, top, rfl, Nm.o, HE.o.wide (by omega) (.inr (by rw [HLm.o]; exact Nat.le_refl _)), HS.o, HBl.o, HO.o⟩
  ·as_aux_lemma =>
   obtain rfl : c = columns := by omega
   go_wp2_with fail
   exact bodyPost_ret (v := .tuple #[.slice (some ⟨R, 0, none⟩) m cR, .int .i64 top]) (by simp [results, Try.results41, go_sem]) rfl ⟨l, M, top, rfl, Nm.o, HE.o, HS.o, HBl.o, HO.o⟩
open Go.RowKit
theorem qKu : (Try.prog.info? 51).map (fun i => (i.zero, i.size, i.bytes)) = some (some (.slice none 0 0), 1, 24) := by kernel_rfl
theorem qHn {w : World} {g : Nat} {t : TypeId} {u : Value} (h : One w g t u) : ∀ j x, ([u] : List Value)[j]? = some x -> w.cell? ((⟨g, 0, none⟩ : Addr).add j) = some x := by
 intro j x hx
 match j, hx with
 | 0, hx => simp at hx; subst hx; exact h.cell
 | j + 1, hx => simp at hx
theorem NRo.put {w : World} {x : Nw} {zs : List Int} (h : NRo w x zs) (j : Nat) (hj : j < zs.length) {s : Bool} {a : Option Addr} {n c : Nat} {z : Int} (hz : qAH w (.agg #[.bool s, .slice a n c]) z) : NRo (st2 w x.1 (x.2.1 + j * 2) (x.2.1 + j * 2 + 1) s a n c) x (zs.set j z) := by
 have ho : qAb (fun b => b = x.1) w (st2 w x.1 (x.2.1 + j * 2) (x.2.1 + j * 2 + 1) s a n c) := (qAb.refl _ _).off' (.inl rfl); have hS : ∀ b, b = x.1 -> qA1 w b := fun b e => e ▸ h.bs.bs; obtain ⟨s0, a0, n0, c0, d0, d1, -⟩ := h.cel j hj; have d1' : (w.setCell ⟨x.1, x.2.1 + j * 2, none⟩ (.bool s)).cell? ⟨x.1, x.2.1 + j * 2 + 1, none⟩ = some (.slice a0 n0 c0) := by rw [qBv d0, if_neg (by omega)]; exact d1
 have hc : ∀ o, (st2 w x.1 (x.2.1 + j * 2) (x.2.1 + j * 2 + 1) s a n c).cell? ⟨x.1, o, none⟩ = if o = x.2.1 + j * 2 + 1 then some (.slice a n c) else if o = x.2.1 + j * 2 then some (.bool s) else w.cell? ⟨x.1, o, none⟩ := fun o => by
  unfold st2; rw [qBv d1', qBv d0]
 refine ⟨by rw [qET]; exact h.lt, fun o u he => ?_, fun o => ?_, fun k hk => ?_⟩
 ·rw [hc] at he
  split at he
  ·injection he with he; exact .inr ⟨_, _, _, he.symm⟩
  ·split at he
   ·injection he with he; exact .inl ⟨_, he.symm⟩
   ·exact h.bs o u he
 ·unfold st2
  rw [World.frozen?_setCell, World.frozen?_setCell]; exact h.fz o
 ·rw [List.length_set] at hk
  by_cases e : k = j
  ·subst e
   refine ⟨s, a, n, c, by rw [hc, if_neg (by omega), if_pos rfl], by rw [hc, if_pos rfl], ?_⟩; rw [List.getElem_set_self]; exact hz.only ho hS
  ·obtain ⟨s', a', n', c', h1, h2, h3⟩ := h.cel k hk
   refine ⟨s', a', n', c', by rw [hc, if_neg (by omega), if_neg (by omega)]; exact h1, by rw [hc, if_neg (by omega), if_neg (by omega)]; exact h2, ?_⟩; rw [List.getElem_set_ne (Ne.symm e)]; exact h3.only ho hS
structure NOu (w : World) (B : Nat) (v : Value) (l : List Nw) (n : Nat) (O : List (List Int)) : Prop where
 own : qBU isS w B 51 1 v l.length (l.map (nrV n))
 len : O.length = l.length
 row : ∀ i (h : i < l.length) (h' : i < O.length), NRo w l[i] O[i] /\ O[i].length = n
 cap : ∀ i (h : i < l.length), n <= l[i].2.2 /\ l[i].2.2 <= 9223372036854775807
theorem qEY {w : World} {B n : Nat} {v : Value} {xs : List Value} {e : TypeId} {size : Nat} (h : qBU isS w B e size v n xs) : ∀ b, v.ownBlock = some b -> qA1 w b := fun b hb => (h.2 b hb).s
theorem qCc {w : World} {B n g : Nat} {v : Value} {xs : List Value} {e : TypeId} {size : Nat} {x : Nw} {zs : List Int} (h : qBU isS w B e size v n xs) (hg : v.ownBlock = some g) (hr : NRo w x zs) (hz : 0 < zs.length) : x.1 ≠ g := fun e9 => by
 obtain ⟨s, a, n', c, h1, -, -⟩ := hr.cel 0 hz; rw [e9] at h1; obtain ⟨a', n'', c', e2⟩ := h.2 g hg _ _ h1; cases e2
section
variable {w w' : World} {B n : Nat} {v : Value} {l : List Nw} {O : List (List Int)}
theorem NOu.nil (w : World) (B n : Nat) : NOu w B (.slice none 0 0) [] n [] := ⟨qBU.nil _ _ _ _, rfl, fun i h => by simp at h, fun i h => by simp at h⟩
theorem NOu.only {S : Nat -> Prop} (h : NOu w B v l n O) (ho : qAb S w w') (hS : ∀ b, S b -> qA1 w b) (hv : ∀ b, v.ownBlock = some b -> ¬ S b) (hr : ∀ i (hi : i < l.length), ¬ S l[i].1) : NOu w' B v l n O :=
 ⟨h.own.only ho hv, h.len, fun i hi hi' => ⟨(h.row i hi hi').1.only ho hS (hr i hi), (h.row i hi hi').2⟩, h.cap⟩
theorem NOu.blw (h : NOu w B v l n O) (hb : Below w.heap.size w w') : NOu w' B v l n O := h.only (S := fun _ => False) (qAb.of_below hb) (fun _ h => h.elim) (fun _ _ h => h) (fun _ _ h => h)
instance : Mv w w' (NOu w B v l n O) (NOu w' B v l n O) := ⟨fun hb h => NOu.blw h hb⟩
theorem NOu.get {R c : Nat} (h : NOu w B v l n O) (hv : v = .slice (some ⟨R, 0, none⟩) l.length c) (i : Nat) (hi : i < l.length) : w.cell? ⟨R, i, none⟩ = some (.slice (some ⟨l[i].1, l[i].2.1, none⟩) n l[i].2.2) := by
 have h1 := h.own; rw [hv] at h1; rw [h1.1.cellAt i (by omega), List.getElem?_map, List.getElem?_eq_getElem hi]; rfl
theorem NOu.frozen {R c : Nat} (h : NOu w B v l n O) (hv : v = .slice (some ⟨R, 0, none⟩) l.length c) (i : Nat) : w.frozen? ⟨R, i, none⟩ = false := by
 have h1 := h.own; rw [hv] at h1; exact h1.1.frozenAt i
theorem NOu.put {R c0 : Nat} (h : NOu w B (.slice (some ⟨R, 0, none⟩) l.length c0) l n O) {i g c : Nat} (hi : i < l.length) {zs : List Int} (hr : NRo w (g, 0, c) zs) (hz : zs.length = n) (hn : 0 < n) (hc : n <= c) (hc2 : c <= 9223372036854775807) :
 NOu (w.setCell ⟨R, i, none⟩ (.slice (some ⟨g, 0, none⟩) n c)) B (.slice (some ⟨R, 0, none⟩) l.length c0) (l.set i (g, 0, c)) n (O.set i zs) := by
 have ho := qB0 w R i (.slice (some ⟨g, 0, none⟩) n c); have hS : ∀ g, g = R -> qA1 w g := fun g e => qEY h.own g (by rw [e]; rfl); have hne : ∀ (x : Nw) (zs : List Int), NRo w x zs -> zs.length = n -> x.1 ≠ R := fun x zs hx hz => qCc h.own rfl hx (by omega); refine ⟨?_, by rw [List.length_set, List.length_set, h.len], fun k hk hk' => ?_, fun k hk => ?_⟩
 ·have h1 := h.own.stored i (by rw [List.length_map]; exact hi) (qE6 (n := n) (x := (g, 0, c)))
  rw [List.length_set, List.map_set]; exact h1
 ·have hk2 : k < l.length := by simpa using hk
  have hk3 : k < O.length := by simpa using hk'
  rw [List.getElem_set, List.getElem_set]
  split
  ·exact ⟨hr.only ho hS (hne _ _ hr hz), hz⟩
  ·obtain ⟨h1, h2⟩ := h.row k hk2 hk3
   exact ⟨h1.only ho hS (hne _ _ h1 h2), h2⟩
 ·have hk2 : k < l.length := by simpa using hk
  rw [List.getElem_set]
  split
  ·exact ⟨hc, hc2⟩
  ·exact h.cap k hk2
theorem NOu.snoc {g c : Nat} {x : Nw} {r : List Int} (h : NOu w B v l n O) (hr : NRo w x r) (hl : r.length = n) (hn : 0 < n) (hc : n <= x.2.2) (hc2 : x.2.2 <= 9223372036854775807) (ho : qAb (fun b => v.ownBlock = some b) w w') (hown : qBU isS w' B 51 1 (.slice (some ⟨g, 0, none⟩) (l.length + 1) c) (l.length + 1) (l.map (nrV n) ++ [nrV n x])) : NOu w' B (.slice (some ⟨g, 0, none⟩) (l.length + 1) c) (l ++ [x]) n (O ++ [r]) := by
 have hlen := h.len; have hrow : ∀ (y : Nw) (rr : List Int), NRo w y rr -> rr.length = n -> NRo w' y rr := fun y rr hy hz => hy.only ho (qEY h.own) (fun e => qCc h.own e hy (by omega) rfl); refine ⟨by rw [List.length_append, List.map_append]; exact hown, by simp [hlen], fun i hi hi' => ?_, fun i hi => ?_⟩
 ·simp only [List.length_append, List.length_singleton] at hi
  by_cases e : i < l.length
  ·rw [List.getElem_append_left e, List.getElem_append_left (by omega)]
   obtain ⟨h1, h2⟩ := h.row i e (by omega); exact ⟨hrow _ _ h1 h2, h2⟩
  ·obtain rfl : i = l.length := by omega
   rw [List.getElem_append_right (by omega), List.getElem_append_right (by omega)]; simp only [hlen, Nat.sub_self, List.getElem_singleton]; exact ⟨hrow _ _ hr hl, hl⟩
 ·simp only [List.length_append, List.length_singleton] at hi
  by_cases e : i < l.length
  ·rw [List.getElem_append_left e]; exact h.cap i e
  ·obtain rfl : i = l.length := by omega
   rw [List.getElem_append_right (by omega)]; simpa using ⟨hc, hc2⟩
end
structure NFr (w : World) (R n : Nat) (l : List Nw) (E : List (List Int)) (i : Nat) : Prop where
 lt : R < w.heap.size
 cell : ∀ j (h : j < l.length), w.cell? ⟨R, j, none⟩ = some (.slice (some ⟨l[j].1, l[j].2.1, none⟩) n l[j].2.2)
 row : ∀ j (h : j < l.length) (h' : j < E.length), i <= j -> NRo w l[j] E[j]
theorem NFr.only {S : Nat -> Prop} {w w' : World} {R n i : Nat} {l : List Nw} {E : List (List Int)} (h : NFr w R n l E i) (ho : qAb S w w') (hS : ∀ b, S b -> qA1 w b) (hR : ¬ S R) (hr : ∀ j (hj : j < l.length), i <= j -> ¬ S l[j].1) : NFr w' R n l E i :=
 ⟨Nat.lt_of_lt_of_le h.lt ho.size, fun j hj => (ho.cell (p := ⟨R, j, none⟩) hR h.lt).trans (h.cell j hj), fun j hj hj' hij => (h.row j hj hj' hij).only ho hS (hr j hj hij)⟩
theorem NFr.blw {w w' : World} {R n i : Nat} {l : List Nw} {E : List (List Int)} (h : NFr w R n l E i) (hb : Below w.heap.size w w') : NFr w' R n l E i := h.only (S := fun _ => False) (qAb.of_below hb) (fun _ h => h.elim) (fun h => h) (fun _ _ _ h => h)
instance {w w' : World} {R n i : Nat} {l : List Nw} {E : List (List Int)} : Mv w w' (NFr w R n l E i) (NFr w' R n l E i) := ⟨fun hb h => NFr.blw h hb⟩
theorem NFr.next {w : World} {R n i : Nat} {l : List Nw} {E : List (List Int)} (h : NFr w R n l E i) : NFr w R n l E (i + 1) := ⟨h.lt, h.cell, fun j hj hj' hij => h.row j hj hj' (by omega)⟩
def qH7 (v : List Int) (k : Nat) : List Int := (v.map (fun x => -x)).take k ++ v.drop k
theorem qIQ (v : List Int) : qH7 v 0 = v := by simp [qH7]
theorem qJW (v : List Int) : qH7 v v.length = v.map (fun x => -x) := by
 unfold qH7; rw [List.drop_length, List.append_nil, List.take_of_length_le (by simp)]
theorem qHo {v : List Int} {k : Nat} (h : k <= v.length) : (qH7 v k).length = v.length := by simp [qH7]; omega
theorem qK6 {v : List Int} {k : Nat} (h : k < v.length) : (qH7 v k)[k]'(by rw [qHo (by omega)]; exact h) = v[k] := qIA (by simp) h
theorem qJV {v : List Int} {k : Nat} (h : k < v.length) : (qH7 v k).set k (-v[k]) = qH7 v (k + 1) := by
 have := qBW (A := v.map (fun x => -x)) (B := v) (by simp) h; simpa [qH7] using this
def qKl (w0 : World) (B0 m n : Nat) (M0 : List (List Int)) (e : Ending) (w' : World) : Prop :=
 ∃ (u : Value) (B : Nat) (l : List Nw) (H : List (List Int)), e = .returned u /\ NOu w' B u l n H /\ qAC (M0.map vec) 0 (H.map vec) /\ H.length <= m /\ (∀ r ∈ H, r.length = n) /\ (∀ r ∈ H, ∀ x ∈ r, Sz 2000000 x) /\ Below B0 w0 w'
theorem qGH (w0 : World) (B0 R cR m n b : Nat) (l0 : List Nw) (M0 : List (List Int)) (h : NMt w0 B0 R cR m l0 n M0) (hB0 : B0 <= w0.heap.size) (hm0 : 0 < m) (hm : m <= 8) (hn0 : 0 < n) (hn : n <= 1000) (hS : ∀ r ∈ M0, ∀ x ∈ r, Sz b x) (h5 : 5 <= b) (hb : b * 5 ^ (m - 1) <= 200000) (hBl : ∀ x ∈ l0, B0 <= x.1) :
 Calls Try.prog 37 #[.slice (some ⟨R, 0, none⟩) m cR, .int .i64 n] w0 (qKl w0 B0 m n M0) := by
 obtain ⟨i0, hi, hz0, hz1, hz2⟩ := info_parts qKu; have Hi := hZ hi; have Hz0 := hZ hz0; have Hz1 := hZ hz1; have Hz2 := hZ hz2; clear hi hz0 hz1 hz2; have HBs := hZ h.base; have Nm := hZ h; have HS := hZ hS; have HBl := hZ hBl; clear h hS hBl
 go_enter Try.func37, Try.ntmps37
 go_wp2_with fail
 refine (qGR w0 B0 R cR m n n b l0 M0 Nm.o hm0 (by omega) hn0 hn (Nat.le_refl _) HS.o h5 (by omega)).mono ?_; rintro e w1 ⟨l, E, top, rfl, hNm, hE, hSe, hbl, hO⟩; have HE := hZ hE; have hbt : eb b m top <= 200000 := Nat.le_trans (qMg b m top) hb; generalize eb b m top = be at *; have HSe := hZ hSe; have HB : Hid (Below B0 w0 w1) := hZ (qAn (Below.refl _ _ : Below B0 w0 w0) hO (fun k e => by rw [e]; exact HBs.o) hB0); have Nl := hZ (And.intro hNm.lenl hNm.len); have Hnd := hZ hNm.nodup; have Hcp := hZ hNm.cap; have HEr := hZ hE.row; have HLB : Hid (∀ j (hj : j < l.length), B0 <= l[j].1) := hZ (fun j hj => by
  rcases hbl _ (List.getElem_mem hj) with ⟨y, hy, e⟩ | h9
  ·rw [e]; exact HBl.o y hy
  ·omega)
 have HLt : Hid (R < w1.heap.size /\ ∀ j (hj : j < l.length), l[j].1 < w1.heap.size) := hZ ⟨hNm.lt, fun j hj => hNm.row_lt j hj⟩; have Fr : Hid (NFr w1 R n l E 0) := hZ ⟨hNm.lt, fun j hj => hNm.get j hj, fun j hj hj' _ => (hNm.row j hj hj').1⟩; have HAp := hZ hNm.apart; obtain ⟨ps, p1, p2, p3, p4⟩ := hE.piv; have Hps := hZ (And.intro p2 (And.intro p3 p4)); have htop : top <= m := by have := hE.le; rw [hNm.len] at this; exact this
 have Hpl := hZ p1; clear p1 p2 p3 p4 hNm hE hSe hbl hO Nm HS
 go_wp2_with fail
 have HOu : Hid (NOu w1 w1.heap.size (.slice none 0 0) [] n []) := hZ (NOu.nil _ _ _); have HNi : Hid (qJv E ps n be 0 []) := hZ qJv.start; have HB1 : Hid (Below w1.heap.size w1 w1) := hZ (Below.refl _ _)
 go_loopw [8, 7] (fun iv ov wr => ∃ (i : Nat) (ga : Option Addr) (gc : Nat) (lo : List Nw) (O : List (List Int)), i <= top /\ iv = .int .i64 i /\ ov = .slice ga i gc /\ Hid (lo.length = i) /\ Hid (qJv E ps n be i O) /\ Hid (NOu wr w1.heap.size (.slice ga i gc) lo n O) /\ Hid (NFr wr R n l E i) /\ Hid (∀ k j (hk : k < lo.length) (hj : j < l.length), i <= j -> lo[k].1 ≠ l[j].1) /\ Hid (w1.heap.size <= wr.heap.size) /\ Hid (Below B0 w0 wr)) (fun iv _ _ => top - (intOf iv).toNat)
 case atStart => exact ⟨0, none, 0, [], [], by omega, rfl, rfl, hZ rfl, HNi, HOu, Fr, hZ (fun k j hk => by simp at hk), hZ (Nat.le_refl _), HB⟩
 case round =>
  clear HNi HOu Fr HB HB1; obtain ⟨i, ga, gc, lo, O, hi, rfl, rfl, HLo, HNi, HOu, Fr, HAd, HSz, HB⟩ := hrel; obtain ⟨w2, rfl⟩ := eY wr; by_cases hit : i < top
  ·as_aux_lemma =>
   have i1 : (0 : Int) <= (i : Int) := by omega
   have i2 : (i : Int) < (m : Int) := by omega
   have hil : i < l.length := by rw [Nl.o.1]; omega
   have hiE : i < E.length := by rw [Nl.o.2]; omega
   have hip : i < ps.length := by rw [Hpl.o]; exact hit
   have i3 : (i : Int) < (top : Int) := by omega
   obtain ⟨p, hp⟩ := eX (ps[i]); obtain ⟨v, hv⟩ := eX (E[i]); have hpv : qBS (vec v) p := by have := Hps.o.2.2 i hiE hip; rw [hv, hp] at this; exact this
   have hpn : p < n := hp ▸ Hps.o.2.1 _ (List.getElem_mem hip); have hvn : v.length = n := hv ▸ HEr.o _ (List.getElem_mem hiE); have HSv : Hid (∀ x ∈ v, Sz be x) := hZ (hv ▸ HSe.o _ (List.getElem_mem hiE)); have Hpv := hZ hpv; have Hvn := hZ hvn; have HRd := hZ (Fr.o.row i hil hiE (Nat.le_refl _)); rw [hv] at HRd; have e0 := Fr.o.cell i hil; obtain ⟨g, hg⟩ := eX (l[i].1); obtain ⟨o, ho⟩ := eX (l[i].2.1); obtain ⟨q, hq⟩ := eX (l[i].2.2); have Hli : Hid (l[i] = (g, o, q)) := hZ (by rw [<- hg, <- ho, <- hq]); rw [hg, ho, hq] at e0; rw [Hli.o] at HRd; have Hpe := hZ (And.intro hp hv); have Hgne : Hid ((∀ k (hk : k < lo.length), lo[k].1 ≠ g) /\ (∀ j (hj : j < l.length), i + 1 <= j -> l[j].1 ≠ g) /\ g ≠ R /\ B0 <= g /\ g < w1.heap.size) := hZ ⟨fun k hk => by have := HAd.o k i hk hil (Nat.le_refl _); rwa [hg] at this, fun j hj hij => by have := Hnd.o j i hj hil (by omega); rwa [hg] at this, hg ▸ HAp.o i hil, hg ▸ HLB.o i hil, hg ▸ HLt.o.2 i hil⟩; have Hqc : Hid (n <= q /\ q <= 9223372036854775807) := hZ (by have := Hcp.o i hil; rwa [hq] at this); replace Fr := hZ Fr.o.next; have HAd2 : Hid (∀ k j (hk : k < lo.length) (hj : j < l.length), i + 1 <= j -> lo[k].1 ≠ l[j].1) := hZ (fun k j hk hj hij => HAd.o k j hk hj (by omega)); clear hp hv hpv hvn hg ho hq HAd
   go_wp2_with fail
   clear e0; have HBa : Hid (Below w2.heap.size w2 w2) := hZ (Below.refl _ _)
   go_loopw [10] (fun cv wr => ∃ c : Nat, c <= p /\ cv = .int .i64 c /\ Hid (Below w2.heap.size w2 wr)) (fun cv _ => p - (intOf cv).toNat)
   case atStart => exact ⟨0, by omega, rfl, HBa⟩
   case round =>
    clear HBa; obtain ⟨c, hc, rfl, HBa⟩ := hrel; obtain ⟨w3, rfl⟩ := eY wr; have c1 : (0 : Int) <= (c : Int) := by omega
    have c2 : (c : Int) < (n : Int) := by omega
    have hcv : c < v.length := by rw [Hvn.o]; omega
    replace HOu := hZ (HOu.o.blw HBa.o); replace Fr := hZ (Fr.o.blw HBa.o); replace HRd := hZ (HRd.o.blw HBa.o); replace HB := hZ (HB.o.trans (HBa.o.mono (Nat.le_trans hB0 HB.o.size))); replace HSz := hZ (Nat.le_trans HSz.o HBa.o.size); obtain ⟨s_x, a_x, n_x, c_x, d0x, d1x, h_x⟩ := HRd.o.get c hcv; simp only [] at d0x d1x; obtain ⟨x, hx⟩ := eX (v[c]); rw [hx] at h_x; have Hx := hZ hx; have Vx := hZ h_x; clear h_x hx
    go_wp2_with fail
    have hl9 := HRd.o.lt; have d0y := d0x; clear d1x d0x; refine (qK2 w3 s_x a_x n_x c_x x Vx.o).mono ?_; rintro e w4 ⟨rfl, hB⟩; have d0x := (hB.cell (p := ⟨g, o + c * 2, none⟩) hl9).trans d0y; clear d0y hl9; replace HSz := hZ (Nat.le_trans HSz.o hB.size); replace HB := hZ (HB.o.trans (hB.mono (Nat.le_trans hB0 HB.o.size))); replace HBa := bT HBa hB; replace HOu := HOu.b hB; replace Fr := Fr.b hB; replace HRd := HRd.b hB; replace Vx := Vx.b hB; clear hB; by_cases hcp : c < p
    ·skip
     have hx0 : x = 0 := by have := Hpv.o.1 c hcp; rw [qAj hcv, Hx.o] at this; exact this
     rw [decide_eq_true hx0]
     go_wp2_with fail
     go_roundw
     case rel => exact ⟨c + 1, by omega, by go_num, HBa⟩
     case measure => simp [intOf]; omega
    ·skip
     have Hcp9 : Hid (c = p) := hZ (by omega); have hx0 : x ≠ 0 := by have := Hpv.o.2; rw [<- Hcp9.o, qAj hcv, Hx.o] at this; exact this
     rw [decide_eq_false hx0]; have Hsx := hZ (qEV Vx.o).2.2.2; clear HBa; have HPo : Hid (0 < vec (qDX v c) c /\ ∀ x ∈ qDX v c, Sz be x) := hZ (by have h9 := qHh (c := c) (v := v) (by rw [Hcp9.o]; exact Hpv.o); exact ⟨h9.2, qIK HSv.o⟩); have HVc : Hid (vec v c = x) := hZ (by rw [qAj hcv, Hx.o])
     go_upto_if 41 with fail
     try clear d0x
     refine qB4 (fun t ds a w' => ∃ v11 v42 v43 v44 v45 v46 v47 v48 v49 v50 v51 v52 v53 v54, a = ⟨((((((((((((((t).setIfInBounds 11 v11).setIfInBounds 42 v42).setIfInBounds 43 v43).setIfInBounds 44 v44).setIfInBounds 45 v45).setIfInBounds 46 v46).setIfInBounds 47 v47).setIfInBounds 48 v48).setIfInBounds 49 v49).setIfInBounds 50 v50).setIfInBounds 51 v51).setIfInBounds 52 v52).setIfInBounds 53 v53).setIfInBounds 54 v54, ds⟩ /\ Hid (NRo w' (g, o, q) (qDX v c)) /\ Hid (NOu w' w1.heap.size (.slice ga i gc) lo n O) /\ Hid (NFr w' R n l E (i + 1)) /\ Hid (w1.heap.size <= w'.heap.size) /\ Hid (Below B0 w0 w')) ?_ ?_
     ·skip
      rcases Int.lt_or_le x 0 with hx9 | hx9
      ·skip
       obtain rfl : s_x = true := Hsx.o.trans (decide_eq_true hx9); have Hp9 : Hid (qDX v c = v.map (fun x => -x)) := hZ (by unfold qDX; rw [HVc.o, if_pos hx9]); have HRz : Hid (NRo w4 (g, o, q) (qH7 v 0)) := hZ (by rw [qIQ]; exact HRd.o)
       go_wp2_with fail
       go_loopw [11] (fun kv wr => ∃ k : Nat, k <= n /\ kv = .int .i64 k /\ Hid (NRo wr (g, o, q) (qH7 v k)) /\ Hid (NOu wr w1.heap.size (.slice ga i gc) lo n O) /\ Hid (NFr wr R n l E (i + 1)) /\ Hid (w1.heap.size <= wr.heap.size) /\ Hid (Below B0 w0 wr)) (fun kv _ => n - (intOf kv).toNat)
       case atStart => exact ⟨0, by omega, rfl, HRz, HOu, Fr, HSz, HB⟩
       case round =>
        clear HRz HRd HOu Fr HSz HB; obtain ⟨k, hk, rfl, HRd, HOu, Fr, HSz, HB⟩ := hrel; obtain ⟨w5, rfl⟩ := eY wr; by_cases hkn : k < n
        ·skip
         have k1 : (0 : Int) <= (k : Int) := by omega
         have k2 : (k : Int) < (n : Int) := by omega
         have hkv : k < v.length := by rw [Hvn.o]; exact hkn
         have hkl : k < (qH7 v k).length := by rw [qHo (by omega)]; exact hkv
         obtain ⟨s_u, a_u, n_u, c_u, d0u, d1u, h_u⟩ := HRd.o.get k hkl; simp only [] at d0u d1u; rw [qK6 hkv] at h_u; obtain ⟨u, hu⟩ := eX (v[k]); rw [hu] at h_u; have Hu := hZ hu; have Vu := hZ h_u; have Su : Hid (Sz be u) := hZ (hu ▸ HSv.o _ (List.getElem_mem hkv)); clear h_u hu
         go_wp2_with fail
         clear d0u d1u; refine (qMJ (w := w5) Vu.o Su.o (by omega)).mono ?_; rintro e w6 ⟨s_z, a_z, n_z, c_z, rfl, h_z, hB⟩; have Vz := hZ h_z; replace HSz := hZ (Nat.le_trans HSz.o hB.size); replace HB := hZ (HB.o.trans (hB.mono (Nat.le_trans hB0 HB.o.size))); replace HOu := HOu.b hB; replace Fr := Fr.b hB; replace HRd := HRd.b hB; replace Vu := Vu.b hB; clear hB h_z; obtain ⟨s_9, a_9, n_9, c_9, e0, e1, -⟩ := HRd.o.get k hkl; simp only [] at e0 e1; have e2 := HRd.o.fz (o + k * 2); have e3 := HRd.o.fz (o + k * 2 + 1); simp only [] at e2 e3; have HRn := hZ (HRd.o.put k hkl Vz.o); simp only [] at HRn; have ho : qAb (fun b => b = g) w6 (st2 w6 g (o + k * 2) (o + k * 2 + 1) s_z a_z n_z c_z) := (qAb.refl _ _).off' (.inl rfl); have hN : ∀ b, b = g -> qA1 w6 b := fun b e => e ▸ HRd.o.bs.bs; replace HOu := hZ (HOu.o.only ho hN (fun b hb e => qCc HOu.o.own hb HRd.o (by omega) e.symm) (fun k hk => Hgne.o.1 k hk)); replace Fr := hZ (Fr.o.only ho hN (fun e => Hgne.o.2.2.1 e.symm) (fun j hj hij => Hgne.o.2.1 j hj hij)); replace HSz := hZ (Nat.le_trans HSz.o ho.size); replace HB := hZ (qAn HB.o ho (fun b e => by rw [e]; exact Hgne.o.2.2.2.1) (Nat.le_trans hB0 HB.o.size)); obtain ⟨w7, hw⟩ := eX ((w6.setCell ⟨g, o + k * 2, none⟩ (.bool s_z)).setCell ⟨g, o + k * 2 + 1, none⟩ (.slice a_z n_z c_z)); rw [show st2 w6 g (o + k * 2) (o + k * 2 + 1) s_z a_z n_z c_z = w7 from hw] at HOu Fr HSz HB HRn; clear ho hN; rw [<- Hu.o, qJV hkv] at HRn
         go_wp2_with fail
         try clear hw
         go_roundw
         case rel => exact ⟨k + 1, by omega, by go_num, HRn, HOu, Fr, HSz, HB⟩
         case measure => simp [intOf]; omega
        ·skip
         obtain rfl : k = n := by omega
         have HRf : Hid (NRo w5 (g, o, q) (qDX v c)) := hZ (by rw [Hp9.o, <- qJW, Hvn.o]; exact HRd.o)
         go_wp2_with fail
         refine qAp ⟨_, _, _, _, _, _, _, _, _, _, _, _, _, _, by first | (simp only [sX1, sX2, sX3]; rfl) | rfl, HRf, HOu, Fr, HSz, HB⟩
      ·skip
       obtain rfl : s_x = false := Hsx.o.trans (decide_eq_false (by omega)); have Hp9 : Hid (qDX v c = v) := hZ (by unfold qDX; rw [HVc.o, if_neg (by omega)]); rw [<- Hp9.o] at HRd
       go_wp2_with fail
       refine qAp ⟨_, _, _, _, _, _, _, _, _, _, _, _, _, _, by first | (simp only [sX1, sX2, sX3]; rfl) | rfl, HRd, HOu, Fr, HSz, HB⟩
     ·skip
      rintro a w5 ⟨v11, v42, v43, v44, v45, v46, v47, v48, v49, v50, v51, v52, v53, v54, rfl, HRn, HOn, Frn, HSn, HBn⟩; simp only [sX1, sX2, sX3]; clear HRd HOu Fr HSz HB Vx Hsx; have HRd := HRn; have HOu := HOn; have Fr := Frn; have HSz := HSn; have HB := HBn; clear HRn HOn Frn HSn HBn; have hpvl : (qDX v c).length = n := by rw [qHi]; exact Hvn.o
      obtain ⟨v', hv'⟩ : ∃ v', qDX v c = v' := ⟨_, rfl⟩; rw [hv'] at HRd HPo hpvl; have Hv' := hZ (And.intro hv' hpvl); clear hv' hpvl
      go_wp2_with fail
      have HRN : Hid (qHR O v' c 0 O) := hZ qHR.start; have HLi : Hid ((∀ k (hk : k < lo.length), lo[k].1 ≠ g) /\ ∀ k j (hk : k < lo.length) (hj : j < l.length), i + 1 <= j -> lo[k].1 ≠ l[j].1) := hZ ⟨Hgne.o.1, HAd2.o⟩; have HY : Hid (be + i * (be + 2) <= 1700000) := hZ (by have : i * (be + 2) <= 7 * (be + 2) := Nat.mul_le_mul_right _ (by omega); omega)
      go_loopw [12] (fun kv wr => ∃ (k : Nat) (lo' : List Nw) (O' : List (List Int)), k <= i /\ kv = .int .i64 k /\ Hid (lo'.length = i) /\ Hid (qHR O v' c k O') /\ Hid (NRo wr (g, o, q) v') /\ Hid (NOu wr w1.heap.size (.slice ga i gc) lo' n O') /\ Hid (NFr wr R n l E (i + 1)) /\ Hid ((∀ k (hk : k < lo'.length), lo'[k].1 ≠ g) /\ ∀ k j (hk : k < lo'.length) (hj : j < l.length), i + 1 <= j -> lo'[k].1 ≠ l[j].1) /\ Hid (w1.heap.size <= wr.heap.size) /\ Hid (Below B0 w0 wr)) (fun kv _ => i - (intOf kv).toNat)
      case atStart => exact ⟨0, lo, O, by omega, rfl, HLo, HRN, HRd, HOu, Fr, HLi, HSz, HB⟩
      case round =>
       clear HRN HRd HOu Fr HLi HSz HB; obtain ⟨k, lo', O', hk, rfl, HLk, HRN, HRd, HOu, Fr, HLi, HSz, HB⟩ := hrel; obtain ⟨w5, rfl⟩ := eY wr; by_cases hki : k < i
       ·skip
        have k1 : (0 : Int) <= (k : Int) := by omega
        have k2 : (k : Int) < (i : Int) := by omega
        have hkl : k < lo'.length := by rw [HLk.o]; exact hki
        have hOl := HOu.o.len; have hkO : k < O'.length := by omega
        have hkO2 : k < O.length := by rw [HNi.o.len]; exact hki
        obtain ⟨Ro, cRo, e9, -, -, hRo1, hRo2⟩ := HOu.o.own.some_ (by omega); rw [HLk.o] at e9; injection e9 with f1 f2 f3; subst f1 f3; clear f2 hRo1 hOl; have HOk : Hid (O'[k]'hkO = O[k]'hkO2) := hZ (HRN.o.left k hkO2 hkO (Nat.le_refl _)); have HRk := hZ (HOu.o.row k hkl hkO); rw [HOk.o] at HRk; have HSk : Hid (∀ x ∈ O[k]'hkO2, Sz (be + i * (be + 2)) x) := hZ (HNi.o.sz _ (List.getElem_mem _)); obtain ⟨rk, hrk⟩ := eX (O[k]'hkO2); rw [hrk] at HRk HSk; have Hrk := hZ hrk; clear hrk; have hce : c < rk.length := by rw [HRk.o.2, Hcp9.o]; exact hpn
        have hcv' : c < v'.length := by rw [Hv'.o.2, Hcp9.o]; exact hpn
        obtain ⟨x1, hx1⟩ := eX (rk[c]); obtain ⟨y1, hy1⟩ := eX (v'[c]); have Sx1 : Hid (Sz (be + i * (be + 2)) x1) := hZ (hx1 ▸ HSk.o _ (List.getElem_mem _)); have Sy1 : Hid (Sz be y1) := hZ (hy1 ▸ HPo.o.2 _ (List.getElem_mem _)); have hy0 : y1 ≠ 0 := by have := HPo.o.1; rw [qAj hcv', hy1] at this; omega
        have HXY : Hid (vec rk c = x1 /\ vec v' c = y1) := hZ ⟨by rw [qAj hce, hx1], by rw [qAj hcv', hy1]⟩; have HCk := hZ (HRk.o.1.get c hce); rw [hx1] at HCk; have HCv := hZ (HRd.o.get c hcv'); rw [hy1] at HCv; clear hx1 hy1; have HGk := hZ (HOu.o.get (R := Ro) (c := gc) (by rw [HLk.o]) k hkl); have Hlt := hZ (And.intro (HRk.o.1.lt) (And.intro HRd.o.lt hRo2)); obtain ⟨gx, hgx⟩ := eX (lo'[k].1); obtain ⟨ox, hox⟩ := eX (lo'[k].2.1); obtain ⟨kx, hkx⟩ := eX (lo'[k].2.2); have Htl : Hid (lo'[k] = (gx, ox, kx)) := hZ (by rw [<- hgx, <- hox, <- hkx]); rw [Htl.o] at HCk HGk Hlt HRk; clear hgx hox hkx hRo2; simp only [] at HCk HGk HCv Hlt
        go_wp2_with fail
        refine qB4 (fun t ds a w' => ∃ v61 v62 v63 v64 v65 v66 v67 v68 v69 v70 v71 v72 v60 v73 v74 b13 b14, a = ⟨(((((((((((((((((t).setIfInBounds 13 (.pointer (some ⟨b13, 0, none⟩))).setIfInBounds 14 (.pointer (some ⟨b14, 0, none⟩))).setIfInBounds 61 v61).setIfInBounds 62 v62).setIfInBounds 63 v63).setIfInBounds 64 v64).setIfInBounds 65 v65).setIfInBounds 66 v66).setIfInBounds 67 v67).setIfInBounds 68 v68).setIfInBounds 69 v69).setIfInBounds 70 v70).setIfInBounds 71 v71).setIfInBounds 72 v72).setIfInBounds 60 v60).setIfInBounds 73 v73).setIfInBounds 74 v74, ds⟩ /\ Hid (Bn w' b13 (x1 / y1)) /\ Hid (Below w5.heap.size w5 w') /\ Hid (w5.heap.size <= b13)) ?_ ?_
        ·skip
         have HJ := hZ (Below.refl w5.heap.size w5); obtain ⟨w6, hwd⟩ := eX w5.drew; have hB := dB hwd; replace HJ := bT HJ hB; clear hB; have HBr : Hid (qAb (fun b => w6.heap.size <= b) w6 w6) := hZ (qAb.refl _ _); refine qAs [17, 18] (fun w' => qAb (fun b => w6.heap.size <= b) w6 w') (by kernel_rfl) (by rw [hwd]; exact qAb.refl _ _) (fun hHeld => ?_); rw [hwd] at hHeld ⊢; clear hwd; obtain ⟨s_x, a_x, n_x, c_x, d0x, d1x, h_x⟩ := HCk.o; obtain ⟨s_y, a_y, n_y, c_y, d0y, d1y, h_y⟩ := HCv.o; replace d0x := (HJ.o.cell (p := ⟨gx, ox + c * 2, none⟩) Hlt.o.1).trans d0x; replace d1x := (HJ.o.cell (p := ⟨gx, ox + c * 2 + 1, none⟩) Hlt.o.1).trans d1x; replace d0y := (HJ.o.cell (p := ⟨g, o + c * 2, none⟩) Hlt.o.2.1).trans d0y; replace d1y := (HJ.o.cell (p := ⟨g, o + c * 2 + 1, none⟩) Hlt.o.2.1).trans d1y; have e0 := (HJ.o.cell (p := ⟨Ro, k, none⟩) Hlt.o.2.2).trans HGk.o; have Vx := hZ (h_x.blw HJ.o); have Vy := hZ (h_y.blw HJ.o); have m0 := Nat.lt_of_lt_of_le Hlt.o.1 HJ.o.size; have m1 := Nat.lt_of_lt_of_le Hlt.o.2.1 HJ.o.size; have m2 := Nat.lt_of_lt_of_le Hlt.o.2.2 HJ.o.size; clear h_x h_y; refine pU 0 61 ?_; refine pU 1 62 ?_; refine pU 2 63 ?_; refine tU 3 64 (cT (Nat.not_le_of_lt m2) e0 m2) ?_; refine pU 4 65 ?_; refine pU 5 66 ?_; refine tV 6 67 (cT (Nat.not_le_of_lt m0) d0x m0) (cT (Nat.not_le_of_lt m0) d1x m0) ?_; refine pU 7 68 ?_; refine pU 8 69 ?_; refine pU 9 70 ?_; refine tV 10 71 (cT (Nat.not_le_of_lt m1) d0y m1) (cT (Nat.not_le_of_lt m1) d1y m1) ?_; clear e0 d0x d1x d0y d1y m0 m1 m2; have HJs : Hid (w5.heap.size <= w6.heap.size) := hZ HJ.o.size; refine qLl [11, 15, 16] [12, 13, 14] [(12, 11), (13, 12), (14, 12)] 6 (fun t ds p a w => ∃ v72 v13 v14 v60 v73 v74 b13 b14, a = ⟨((((((t).setIfInBounds 72 v72).setIfInBounds 13 v13).setIfInBounds 14 v14).setIfInBounds 60 v60).setIfInBounds 73 v73).setIfInBounds 74 v74, ds⟩ /\ Hid (Below w6.heap.size w6 w) /\ (p 11 = true -> Hid (qIu w v72 x1 y1)) /\ (p 15 = true -> v13 = .pointer (some ⟨b13, 0, none⟩) /\ Hid (Bn w b13 0) /\ Hid (w6.heap.size <= b13)) /\ (p 16 = true -> v14 = .pointer (some ⟨b14, 0, none⟩) /\ Hid (Bn w b14 0) /\ Hid (w6.heap.size <= b14)) /\ (p 12 = true -> Hid (qIu w v60 x1 y1)) /\ (p 13 = true -> Hid (qAH w v73 (x1 / y1))) /\ (p 14 = true -> Hid (qAH w v74 (x1 % y1))) /\ (p 15 = true -> p 16 = true -> b13 ≠ b14)) ?_ (by kernel_rfl) (by decide) rfl rfl (by kernel_rfl) ⟨?_, ?_, ?_, trivial⟩ ⟨?_, ?_, ?_, trivial⟩ ?_
         ·exact ⟨_, _, _, _, _, _, 0, 0, by first | rfl | (simp only [sX1, sX2, sX3]; rfl), hZ (Below.refl _ _), nofun, nofun, nofun, nofun, nofun, nofun, nofun⟩
         ·skip
          intro p a w7 hJ hp; obtain ⟨v72, v13, v14, v60, v73, v74, b13, b14, rfl, HBw, g11, g15, g16, g12, g13, g14, n1516⟩ := hJ; simp only [sX1, sX2, sX3]; refine qAW 11 rfl (fun K hK => ?_); replace Vx := hZ (Vx.o.blw HBw.o); replace Vy := hZ (Vy.o.blw HBw.o); go_simp; refine (qMz (w := w7) Vx.o Vy.o hy0 Sx1.o Sy1.o (by have := HY.o; omega) (by omega)).mono ?_; rintro e w8 ⟨s_u, a_u, n_u, c_u, s_t, a_t, n_t, c_t, rfl, h_u, h_t, hB⟩; exact hK.out _ _ (HBr.o.trans (qAb.of_below (HBw.o.trans (hB.mono HBw.o.size)))) ⟨_, v13, v14, v60, v73, v74, b13, b14, by first | (simp only [Act.put]; done) | (simp only [sX1, sX2, sX3]; rfl), hZ (HBw.o.trans (hB.mono HBw.o.size)), fun _ => hZ (⟨_, _, _, _, _, _, _, _, rfl, h_u, h_t⟩), fun h => ⟨(g15 h).1, hZ ((g15 h).2.1.o.blw hB), (g15 h).2.2⟩, fun h => ⟨(g16 h).1, hZ ((g16 h).2.1.o.blw hB), (g16 h).2.2⟩, fun h => hZ ((g12 h).o.blw hB), fun h => hZ ((g13 h).o.blw hB), fun h => hZ ((g14 h).o.blw hB), n1516⟩
         ·skip
          intro p a w7 hJ hp; obtain ⟨v72, v13, v14, v60, v73, v74, b13, b14, rfl, HBw, g11, g15, g16, g12, g13, g14, n1516⟩ := hJ; simp only [sX1, sX2, sX3]; refine qAW 15 rfl (fun K hK => ?_); go_simp; obtain ⟨w8, hw⟩ := eX (w7.alloc (.cells #[.bool false, .slice none 0 0] 61)); have hB := aB hw; have hx : Hid (Bn w8 w7.heap.size 0) := hZ (by rw [<- hw]; exact Bn.new (qCb _)); rw [hw]; clear hw; exact hK.out _ _ (HBr.o.trans (qAb.of_below (HBw.o.trans (hB.mono HBw.o.size)))) ⟨v72, _, v14, v60, v73, v74, w7.heap.size, b14, by first | (simp only [Act.put]; done) | (simp only [sX1, sX2, sX3]; rfl), hZ (HBw.o.trans (hB.mono HBw.o.size)), fun h => hZ ((g11 h).o.blw hB), fun _ => ⟨rfl, hx, hZ HBw.o.size⟩, fun h => ⟨(g16 h).1, hZ ((g16 h).2.1.o.blw hB), (g16 h).2.2⟩, fun h => hZ ((g12 h).o.blw hB), fun h => hZ ((g13 h).o.blw hB), fun h => hZ ((g14 h).o.blw hB), fun _ h => by have := (g16 h).2.1.o.lt; omega⟩
         ·skip
          intro p a w7 hJ hp; obtain ⟨v72, v13, v14, v60, v73, v74, b13, b14, rfl, HBw, g11, g15, g16, g12, g13, g14, n1516⟩ := hJ; simp only [sX1, sX2, sX3]; refine qAW 16 rfl (fun K hK => ?_); go_simp; obtain ⟨w8, hw⟩ := eX (w7.alloc (.cells #[.bool false, .slice none 0 0] 61)); have hB := aB hw; have hx : Hid (Bn w8 w7.heap.size 0) := hZ (by rw [<- hw]; exact Bn.new (qCb _)); rw [hw]; clear hw; exact hK.out _ _ (HBr.o.trans (qAb.of_below (HBw.o.trans (hB.mono HBw.o.size)))) ⟨v72, v13, _, v60, v73, v74, b13, w7.heap.size, by first | (simp only [Act.put]; done) | (simp only [sX1, sX2, sX3]; rfl), hZ (HBw.o.trans (hB.mono HBw.o.size)), fun h => hZ ((g11 h).o.blw hB), fun h => ⟨(g15 h).1, hZ ((g15 h).2.1.o.blw hB), (g15 h).2.2⟩, fun _ => ⟨rfl, hx, hZ HBw.o.size⟩, fun h => hZ ((g12 h).o.blw hB), fun h => hZ ((g13 h).o.blw hB), fun h => hZ ((g14 h).o.blw hB), fun h _ => by have := (g15 h).2.1.o.lt; omega⟩
         ·skip
          intro p a w7 hJ hp; obtain ⟨v72, v13, v14, v60, v73, v74, b13, b14, rfl, HBw, g11, g15, g16, g12, g13, g14, n1516⟩ := hJ; have Vd := g11 (hp 11 (by simp)); obtain ⟨s_i, a_i, n_i, c_i, s_j, a_j, n_j, c_j, rfl, h_i, h_j⟩ := Vd.o; simp only [sX1, sX2, sX3]; refine qCl 12 60 (v := ?_) rfl rfl (fun _ _ _ h => h) (by rfl) ?_ ?_; rotate_left
          ·(intro w; go_simp; first | done | with_reducible rfl)
          simp only [sX1, sX2, sX3]; exact ⟨_, v13, v14, _, v73, v74, b13, b14, by first | rfl | (simp only [sX1, sX2, sX3]; rfl), HBw, g11, g15, g16, fun _ => hZ (⟨_, _, _, _, _, _, _, _, rfl, h_i, h_j⟩), g13, g14, n1516⟩
         ·skip
          intro p a w7 hJ hp; obtain ⟨v72, v13, v14, v60, v73, v74, b13, b14, rfl, HBw, g11, g15, g16, g12, g13, g14, n1516⟩ := hJ; have Vm := g12 (hp 12 (by simp)); obtain ⟨s_k, a_k, n_k, c_k, s_l, a_l, n_l, c_l, rfl, h_k, h_l⟩ := Vm.o; simp only [sX1, sX2, sX3]; refine qCl 13 73 (v := ?_) rfl rfl (fun _ _ _ h => h) (by rfl) ?_ ?_; rotate_left
          ·(intro w; go_simp; first | done | with_reducible rfl)
          simp only [sX1, sX2, sX3]; exact ⟨v72, v13, v14, _, _, v74, b13, b14, by first | rfl | (simp only [sX1, sX2, sX3]; rfl), HBw, g11, g15, g16, g12, fun _ => hZ (h_k), g14, n1516⟩
         ·skip
          intro p a w7 hJ hp; obtain ⟨v72, v13, v14, v60, v73, v74, b13, b14, rfl, HBw, g11, g15, g16, g12, g13, g14, n1516⟩ := hJ; have Vm := g12 (hp 12 (by simp)); obtain ⟨s_k, a_k, n_k, c_k, s_l, a_l, n_l, c_l, rfl, h_k, h_l⟩ := Vm.o; simp only [sX1, sX2, sX3]; refine qCl 14 74 (v := ?_) rfl rfl (fun _ _ _ h => h) (by rfl) ?_ ?_; rotate_left
          ·(intro w; go_simp; first | done | with_reducible rfl)
          simp only [sX1, sX2, sX3]; exact ⟨v72, v13, v14, _, v73, _, b13, b14, by first | rfl | (simp only [sX1, sX2, sX3]; rfl), HBw, g11, g15, g16, g12, g13, fun _ => hZ (h_l), n1516⟩
         ·skip
          intro p a w7 hJ hp; obtain ⟨v72, v13, v14, v60, v73, v74, b13, b14, rfl, HBw, g11, g15, g16, g12, g13, g14, n1516⟩ := hJ; have Vd := g11 (hp 11 (by simp)); obtain ⟨s_i, a_i, n_i, c_i, s_j, a_j, n_j, c_j, rfl, h_i, h_j⟩ := Vd.o; obtain ⟨rfl, Fq, hge_b13⟩ := g15 (hp 15 (by simp)); replace hge_b13 : w6.heap.size <= b13 := Nat.le_trans HBr.o.size hge_b13.o; obtain ⟨rfl, Fr, hge_b14⟩ := g16 (hp 16 (by simp)); replace hge_b14 : w6.heap.size <= b14 := Nat.le_trans HBr.o.size hge_b14.o; have Vm := g12 (hp 12 (by simp)); obtain ⟨s_k, a_k, n_k, c_k, s_l, a_l, n_l, c_l, rfl, h_k, h_l⟩ := Vm.o; have Vq := g13 (hp 13 (by simp)); obtain ⟨s_q, a_q, n_q, c_q, rfl⟩ := Vq.o.form2; have Vr := g14 (hp 14 (by simp)); obtain ⟨s_r, a_r, n_r, c_r, rfl⟩ := Vr.o.form2; replace n1516 := n1516 (hp 15 (by simp)) (hp 16 (by simp)); clear g11 g15 g16 g12 g13 g14; replace HBr := hZ (HBr.o.trans (qAb.of_below HBw.o)); have hB := HBw.o; simp only [sX1, sX2, sX3]; clear HBw; replace Vx := Vx.b hB; replace Vy := Vy.b hB; replace HJ := bT HJ hB; clear hB; obtain ⟨s_9, a_9, n_9, c_9, t_9, -⟩ := Fq.o; have e0 := t_9.cell0; have e1 := t_9.cell1; have e2 := t_9.frozen 0; have e3 := t_9.frozen 1; clear t_9; have hn9 : qA1 w7 (b13) := Fq.o.noInt; obtain ⟨w8, hw⟩ := eX ((w7.setCell ⟨b13, 0, none⟩ (.bool s_q)).setCell ⟨b13, 1, none⟩ (.slice a_q n_q c_q)); have hw2 : st2 w7 (b13) (0) (1) s_q a_q n_q c_q = w8 := hw; replace Fq := hZ (Bn.put Fq.o Vq.o); rw [hw2] at Fq; replace Vx := hZ (Vx.o.offe hw2 hn9); replace Vy := hZ (Vy.o.offe hw2 hn9); replace Fr := hZ (Fr.o.offe hw2 hn9 (by omega)); replace Vq := hZ (Vq.o.offe hw2 hn9); replace Vr := hZ (Vr.o.offe hw2 hn9); replace HJ := hZ (bO hw2 HJ.o (by have := HJs.o; omega)); clear hw2 hn9; refine lU 17 fun K hK => ?_; go_simp
          try rw [hw]
          refine hK.out _ _ ?_; clear hK K
          try simp only [Act.put, sX1, sX2, sX3]
          clear hw e0 e1 e2 e3; obtain ⟨s_9, a_9, n_9, c_9, t_9, -⟩ := Fr.o; have e0 := t_9.cell0; have e1 := t_9.cell1; have e2 := t_9.frozen 0; have e3 := t_9.frozen 1; clear t_9; have hn9 : qA1 w8 (b14) := Fr.o.noInt; obtain ⟨w9, hw⟩ := eX ((w8.setCell ⟨b14, 0, none⟩ (.bool s_r)).setCell ⟨b14, 1, none⟩ (.slice a_r n_r c_r)); have hw2 : st2 w8 (b14) (0) (1) s_r a_r n_r c_r = w9 := hw; replace Fr := hZ (Bn.put Fr.o Vr.o); rw [hw2] at Fr; replace Vx := hZ (Vx.o.offe hw2 hn9); replace Vy := hZ (Vy.o.offe hw2 hn9); replace Fq := hZ (Fq.o.offe hw2 hn9 (by omega)); replace Vq := hZ (Vq.o.offe hw2 hn9); replace Vr := hZ (Vr.o.offe hw2 hn9); replace HJ := hZ (bO hw2 HJ.o (by have := HJs.o; omega)); clear hw2 hn9; refine lU 18 fun K hK => ?_; go_simp
          try rw [hw]
          refine hK.out _ _ ?_; clear hK K
          try simp only [Act.put, sX1, sX2, sX3]
          clear hw e0 e1 e2 e3; refine dU ?_; clear hHeld; refine qAp ⟨_, _, _, _, _, _, _, _, _, _, _, _, _, _, _, _, _, by first | rfl | (simp only [sX1, sX2, sX3]; rfl), Fq, HJ, hZ (by have := HJs.o; omega)⟩
        ·skip
         rintro a w6 ⟨v61, v62, v63, v64, v65, v66, v67, v68, v69, v70, v71, v72, v60, v73, v74, b13, b14, rfl, Fq, HJ, Hb13⟩; simp only [sX1, sX2, sX3]; have hB := HJ.o; clear HJ Hb13; replace HSz := hZ (Nat.le_trans HSz.o hB.size); replace HB := hZ (HB.o.trans (hB.mono (Nat.le_trans hB0 HB.o.size))); replace HRk := hZ (And.intro (HRk.o.1.blw hB) HRk.o.2); clear HCk HCv HGk Hlt; replace HRd := HRd.b hB; replace HOu := HOu.b hB; replace Fr := Fr.b hB; clear hB; obtain ⟨z, hz⟩ := eX (x1 / y1); rw [hz] at Fq; have Hz := hZ hz; have Sz_ : Hid (Sz (be + i * (be + 2) + 1) z) := hZ (hz ▸ Sx1.o.div hy0); clear hz
         go_wp2_with fail
         have HD := hZ (Below.refl w6.heap.size w6); obtain ⟨w7, hwd⟩ := eX w6.drew; have hB := dB hwd; replace HRd := HRd.b hB; replace HOu := HOu.b hB; replace Fr := Fr.b hB; replace Fq := Fq.b hB; replace HD := bT HD hB; clear hB; have HBr : Hid (qAb (fun b => False) w7 w7) := hZ (qAb.refl _ _); refine qAs [10] (fun w' => qAb (fun b => False) w7 w') (by kernel_rfl) (by rw [hwd]; exact qAb.refl _ _) (fun hHeld => ?_); rw [hwd] at hHeld ⊢; clear hwd; replace HRk := hZ (And.intro (HRk.o.1.blw HD.o) HRk.o.2); replace HSz := hZ (Nat.le_trans HSz.o HD.o.size); replace HB := hZ (HB.o.trans (HD.o.mono (Nat.le_trans hB0 HB.o.size))); have e0 := HOu.o.get (R := Ro) (c := gc) (by rw [HLk.o]) k hkl; rw [Htl.o] at e0; simp only [] at e0; obtain ⟨s_q, a_q, n_q, c_q, t_q, h_q⟩ := Fq.o; have d0q := t_q.cell0; have d1q := t_q.cell1; have hlq := t_q.lt; have hlR := (HOu.o.own.lt Ro rfl).2; have Vq := hZ h_q; clear t_q h_q; refine pU 0 75 ?_; refine pU 1 76 ?_; refine pU 2 77 ?_; refine pU 3 78 ?_; refine pU 4 79 ?_; refine tU 5 80 (cF e0 hlR) ?_; refine pU 6 81 ?_; refine tV 7 82 (cF d0q hlq) (cF d1q hlq) ?_; clear e0 d0q d1q hlq hlR; refine eU 8 fun K hK => ?_; go_simp; refine (qK3 w7 gx ox kx g o q n 2000000 s_q a_q n_q c_q z rk v' HRk.o.1 HRd.o HRk.o.2 Hv'.o.2 hn0 hn Vq.o (fun x hx => (HSk.o x hx).mono (by have := HY.o; omega)) (fun x hx => (HPo.o.2 x hx).mono (by omega)) (Sz_.o.mono (by have := HY.o; omega)) (by omega)).mono ?_; rintro e w8 ⟨g9, c9, rfl, hr9, hge9, hc9, hc92, hB⟩; replace HBr := oT HBr hB; have Rr := hZ hr9; have HGe : Hid (w1.heap.size <= g9) := hZ (Nat.le_trans HSz.o hge9); replace HSz := hZ (Nat.le_trans HSz.o hB.size); replace HB := hZ (HB.o.trans (hB.mono (Nat.le_trans hB0 HB.o.size))); clear Vq Fq HRk HD; replace HRd := HRd.b hB; replace HOu := HOu.b hB; replace Fr := Fr.b hB; clear hB hr9 hge9; refine hK.out _ _ HBr.o (fun hHeld => ?_); clear hK K
         try simp only [Act.put, sX1, sX2, sX3]
         refine pU 9 84 ?_; have e2 := HOu.o.frozen (R := Ro) (c := gc) (by rw [HLk.o]) k; have e3 := HOu.o.get (R := Ro) (c := gc) (by rw [HLk.o]) k hkl; obtain ⟨w9, hw⟩ := eX (w8.setCell ⟨Ro, k, none⟩ (.slice (some ⟨g9, 0, none⟩) n c9)); have HOn : Hid (NOu w9 w1.heap.size (.slice (some ⟨Ro, 0, none⟩) i gc) (lo'.set k (g9, 0, c9)) n (O'.set k (qCn rk v' z))) := hZ (by rw [<- hw]; have h9 := HOu.o; rw [<- HLk.o] at h9 ⊢; exact NOu.put h9 hkl Rr.o (by rw [qA9]; rw [<- Hrk.o]; exact HNi.o.row _ (List.getElem_mem _)) hn0 hc9 hc92); have ho9 := qB0 w8 Ro k (.slice (some ⟨g9, 0, none⟩) n c9); rw [hw] at ho9; have hN9 : ∀ b, b = Ro -> qA1 w8 b := fun b e => qEY HOu.o.own b (by rw [e]; rfl); replace HRd := hZ (HRd.o.only ho9 hN9 (fun e => qCc HOu.o.own rfl HRd.o (by rw [Hv'.o.2]; exact hn0) e)); have HlR := hZ (HOu.o.own.lt Ro rfl).1; replace Fr := hZ (Fr.o.only ho9 hN9 (fun e => by have := HlR.o; have := HLt.o.1; omega) (fun j hj hij e => by have := HlR.o; have := HLt.o.2 j hj; omega)); replace HSz := hZ (Nat.le_trans HSz.o ho9.size); replace HB := hZ (qAn HB.o ho9 (fun b e => by have := HlR.o; have := HLt.o.1; have := HBs.o; omega) (Nat.le_trans hB0 HB.o.size)); clear ho9 hN9; refine lU 10 fun K hK => ?_; go_simp
         try rw [hw]
         refine hK.out _ _ ?_; clear hK K
         try simp only [Act.put, sX1, sX2, sX3]
         clear hw e2 e3 HOu Rr; refine dU ?_; clear hHeld
         go_wp2_with fail
         go_roundw
         case rel => exact ⟨k + 1, lo'.set k (g9, 0, c9), O'.set k (qCn rk v' z), by omega, by go_num, hZ (by rw [List.length_set]; exact HLk.o), hZ (HRN.o.step hkO2 (by rw [Hrk.o, HXY.o.1, HXY.o.2, Hz.o])), HRd, HOn, Fr, hZ ⟨fun t ht => by rw [List.getElem_set]; split; exact (fun e => by have := Hgne.o.2.2.2.2; have := HGe.o; simp only [] at e; omega); exact HLi.o.1 t (by simpa using ht), fun t j ht hj hij => by rw [List.getElem_set]; split; exact (fun e => by have := HLt.o.2 j hj; have := HGe.o; simp only [] at e; omega); exact HLi.o.2 t j (by simpa using ht) hj hij⟩, HSz, HB⟩
         case measure => simp [intOf]; omega
       ·skip
        have hke : k = i := by omega
        have HRo : Hid (qHR O (qDX E[i] ps[i]) ps[i] O.length O') := hZ (by rw [Hpe.o.1, Hpe.o.2, <- Hcp9.o, Hv'.o.1, HNi.o.len]; have h9 := HRN.o; rwa [hke] at h9); have HNn := hZ (HNi.o.step Hps.o.1 hiE hip (by rw [Hpe.o.2]; exact Hvn.o) (by rw [Hpe.o.1, Hpe.o.2]; exact Hpv.o) (by rw [Hpe.o.2]; exact HSv.o) HRo.o); rw [Hpe.o.1, Hpe.o.2, <- Hcp9.o, Hv'.o.1] at HNn; clear hke HRo
        go_wp2_with (at_builtin; refine qCM rfl _ _ 50 rfl w1.heap.size 51 i0 _ 1 24 Try.underlying50 Hi.o Hz0.o Hz1.o Hz2.o rfl (by decide) (Q := isS) (by intro u hu; simp [Value.cells] at hu; subst hu; exact ⟨_, _, _, rfl⟩) (.slice ga i gc) i (lo'.map (nrV n)) rfl (by have h9 := HOu.o.own.blw ((Below.refl _ w5).alloc (Nat.le_refl _) (.cells #[.slice (some ⟨g, o, none⟩) n q] 51)); rw [HLk.o] at h9; exact h9) ⟨w5.heap.size, 0, none⟩ 1 1 [.slice (some ⟨g, o, none⟩) n q] rfl rfl (qHn (One.new _ _ _)) (by simp [Value.oneCell']) (by intro u hu; simp at hu; subst hu; exact ⟨_, _, _, rfl⟩) (by decide) (by unfold maxLen; omega) (by omega) (by simp; have := HSz.o; omega) ?_)
        intro v5 w5' hown hon; obtain ⟨w6, hw⟩ := eX (w5.alloc (.cells #[.slice (some ⟨g, o, none⟩) n q] 51)); have hB := aB hw; replace hon : qAb (fun b => (Value.slice ga i gc).ownBlock = some b) w6 w5' := by rw [<- hw]; exact hon
        clear hw; replace HSz := hZ (Nat.le_trans HSz.o hB.size); replace HB := hZ (HB.o.trans (hB.mono (Nat.le_trans hB0 HB.o.size))); replace HRd := HRd.b hB; replace HOu := HOu.b hB; replace Fr := Fr.b hB; clear hB; obtain ⟨w7, rfl⟩ := eY w5'; obtain ⟨g5, c5, rfl, h51, h52, h53, -⟩ := hown.some_ (by omega); have hN : ∀ b, (Value.slice ga i gc).ownBlock = some b -> qA1 w6 b := qEY HOu.o.own; have HOn := hZ (NOu.snoc (g := g5) (c := c5) (x := (g, o, q)) HOu.o HRd.o Hv'.o.2 hn0 Hqc.o.1 Hqc.o.2 hon (by rw [HLk.o]; exact hown)); replace Fr := hZ (Fr.o.only hon hN (fun e => by have := (HOu.o.own.lt R e).1; have := HLt.o.1; omega) (fun j hj hij e => by have := (HOu.o.own.lt _ e).1; have := HLt.o.2 j hj; omega)); replace HB := hZ (qAn HB.o hon (fun b e => by have := (HOu.o.own.lt b e).1; have := HLt.o.1; have := HBs.o; omega) (Nat.le_trans hB0 HB.o.size)); replace HSz := hZ (Nat.le_trans HSz.o hon.size); rw [HLk.o] at HOn
        go_wp2_with fail
        go_roundw
        case rel => exact ⟨i + 1, some ⟨g5, 0, none⟩, c5, lo' ++ [(g, o, q)], O' ++ [v'], by omega, by go_num, rfl, hZ (by simp [HLk.o]), HNn, HOn, Fr, hZ (fun k j hk hj hij => by rw [List.getElem_append]; split; exact HLi.o.2 k j _ hj hij; simp only [List.getElem_singleton]; exact fun e => Hgne.o.2.1 j hj hij e.symm), HSz, HB⟩
        case measure => simp [intOf]; omega
  ·as_aux_lemma =>
   obtain rfl : i = top := by omega
   go_wp2_with fail
   have HF := HNi.o; go_ret; exact ⟨_, w1.heap.size, lo, O, rfl, HOu.o, HE.o.nor HF Hpl.o Hps.o.1 Hps.o.2.1, by rw [HF.len]; exact htop, HF.row, fun r hr x hx => (HF.sz r hr x hx).mono (by have : i * (be + 2) <= 8 * (be + 2) := Nat.mul_le_mul_right _ (by omega); omega), HB.o⟩
end Go.Proofs.Ytlmbebbdamgfpaa
