/- worldmintref06.Echelon. -/
import Derived.Test.YtlmbebbdamgfpaaQHLNMat
import Derived.Test.YtlmbebbdamgfpaaQHRegFork
import Derived.Test.YtlmbebbdamgfpaaQHRegFree
set_option linter.unusedVariables false
set_option linter.unusedSimpArgs false
set_option maxHeartbeats 16000000
set_option maxRecDepth 100000
namespace Go.Proofs.Ytlmbebbdamgfpaa
open Go.RowKit
def Bn (w : World) (b : Nat) (z : Int) : Prop := ∃ s a n c, Two w b 61 (.bool s) (.slice a n c) /\ qAL w (.agg #[.bool s, .slice a n c]) z
section
variable {w w' : World} {b g : Nat} {z : Int} {o1 o2 : Nat} {s : Bool} {a : Option Addr} {n c : Nat}
theorem Two.allC {t : TypeId} {x y : Value} {Q : Value -> Prop} (h : Two w b t x y) (hx : Q x) (hy : Q y) : qFM Q w b := by
 refine qCI h (fun u hu => ?_); simp at hu; rcases hu with rfl | rfl
 ·exact hx
 ·exact hy
theorem Bn.lt (h : Bn w b z) : b < w.heap.size := by obtain ⟨_, _, _, _, h, _⟩ := h; exact h.lt
theorem Bn.blw (h : Bn w b z) (hb : Below w.heap.size w w') : Bn w' b z := by
 obtain ⟨s, a, n, c, h1, h2⟩ := h; exact ⟨s, a, n, c, h1.below hb h1.lt, h2.blw hb⟩
instance : Mv w w' (Bn w b z) (Bn w' b z) := ⟨fun hb h => Bn.blw h hb⟩
theorem Bn.noInt (h : Bn w b z) : qBa w b := by
 obtain ⟨s, a, n, c, h1, h2⟩ := h; exact (h1.allC (Q := qGI) (.inl ⟨_, rfl⟩) (.inr ⟨_, _, _, rfl⟩)).bs
theorem Bn.new (h : qAL w (.agg #[.bool s, .slice a n c]) z) : Bn (w.alloc (.cells #[.bool s, .slice a n c] 61)) w.heap.size z :=
 ⟨s, a, n, c, Two.new _ _ _ _, h.blw ((Below.refl _ _).alloc (Nat.le_refl _) _)⟩
theorem qAL.off {v : Value} (h : qAL w v z) (hn : qBa w g) : qAL (st2 w g o1 o2 s a n c) v z := h.only (S := fun b => b = g) ((qAc.refl _ _).off' (.inl rfl)) (fun b e => e ▸ hn)
theorem Bn.only {S : Nat -> Prop} (h : Bn w b z) (ho : qAc S w w') (hS : ∀ b, S b -> qBa w b) (hn : ¬ S b) : Bn w' b z := by
 obtain ⟨s, a, n, c, h1, h2⟩ := h; exact ⟨s, a, n, c, h1.only ho hn, h2.only ho hS⟩
theorem Bn.off (h : Bn w b z) (hn : qBa w g) (hne : b ≠ g) : Bn (st2 w g o1 o2 s a n c) b z := h.only (S := fun b => b = g) ((qAc.refl _ _).off' (.inl rfl)) (fun b e => e ▸ hn) hne
theorem qAL.offe {v : Value} (h : qAL w v z) (e : st2 w g o1 o2 s a n c = w') (hn : qBa w g) : qAL w' v z := e ▸ h.off hn
theorem Bn.offe (h : Bn w b z) (e : st2 w g o1 o2 s a n c = w') (hn : qBa w g) (hne : b ≠ g) : Bn w' b z := e ▸ h.off hn hne
theorem Bn.put (h : Bn w b z) {y : Int} (hy : qAL w (.agg #[.bool s, .slice a n c]) y) : Bn (st2 w b 0 1 s a n c) b y := by
 have hn := h.noInt; obtain ⟨s', a', n', c', h1, h2⟩ := h; exact ⟨s, a, n, c, h1.put2 _ _, hy.off hn⟩
end
theorem qJ8 (x y : Int) : qAK (x.natAbs : Int) (y.natAbs : Int) < 0 ↔ x.natAbs < y.natAbs := by
 unfold qAK
 split
 ·omega
 ·split <;> omega
theorem qJb {M : List (List Int)} {k : Nat} (h : ∀ r ∈ M, ∀ x ∈ r, Sz k x) (i j : Nat) : Sz k (ent M i j) := by
 unfold ent; rcases Nat.lt_or_ge i M.length with hi | hi
 ·rw [List.getElem?_eq_getElem hi]; exact qGP (h _ (List.getElem_mem _)) j
 ·rw [List.getElem?_eq_none hi]; exact qGP (fun x hx => by cases hx) j
theorem qDs.eq_ {M M' : List (List Int)} {top c : Nat} (h : qDs M top c (top + 1) M') : M' = M :=
 List.ext_getElem h.len (fun k hk hk' => h.same k hk' hk (by omega))
def qJw (w : World) (v : Value) (x y : Int) : Prop := ∃ s a n c s' a' n' c', v = .tuple #[.agg #[.bool s, .slice a n c], .agg #[.bool s', .slice a' n' c']] /\ qAL w (.agg #[.bool s, .slice a n c]) (x / y) /\ qAL w (.agg #[.bool s', .slice a' n' c']) (x % y)
theorem qJw.blw {w w' : World} {v : Value} {x y : Int} (h : qJw w v x y) (hb : Below w.heap.size w w') : qJw w' v x y := by
 obtain ⟨s, a, n, c, s', a', n', c', rfl, h1, h2⟩ := h; exact ⟨s, a, n, c, s', a', n', c', rfl, h1.blw hb, h2.blw hb⟩
instance {w w' : World} {v : Value} {x y : Int} : Mv w w' (qJw w v x y) (qJw w' v x y) := ⟨fun hb h => qJw.blw h hb⟩
theorem qCz (w0 : World) (a : Option Addr) (k c columns : Nat) (h : columns = 0 \/ k = 0) (hk : k <= 1000) (hc : columns <= 1000) :
 Calls Try.prog 41 #[.slice a k c, .int .i64 columns] w0 fun e w' => e = .returned (.tuple #[.slice a k c, .int .i64 0]) /\ Below w0.heap.size w0 w' := by
 have HB := hZ (Below.refl w0.heap.size w0)
 go_enter Try.func41, Try.ntmps41
 go_wp2_with fail
 go_loopw [7, 6] (fun cv tv wr => cv = .int .i64 0 /\ tv = .int .i64 0 /\ Hid (Below w0.heap.size w0 wr)) (fun _ _ _ => 0)
 case atStart => exact ⟨rfl, rfl, HB⟩
 case round =>
  obtain ⟨rfl, rfl, HB⟩ := hrel; rcases Nat.eq_zero_or_pos columns with h0 | h0
  ·subst h0
   go_wp2_with fail
   exact bodyPost_ret (v := .tuple #[.slice a k c, .int .i64 0]) (by simp [results, Try.results41, go_sem]) rfl ⟨rfl, HB.o⟩
  ·obtain rfl : k = 0 := by omega
   have c1 : (0 : Int) < (columns : Int) := by omega
   go_wp2_with fail
   exact bodyPost_ret (v := .tuple #[.slice a 0 c, .int .i64 0]) (by simp [results, Try.results41, go_sem]) rfl ⟨rfl, HB.o⟩
theorem qCY (w0 : World) (B0 R cR m n columns b : Nat) (l0 : List Nw) (M0 : List (List Int)) (h : NMt w0 B0 R cR m l0 n M0) (hm0 : 0 < m) (hm : m <= 1000) (hn0 : 0 < n) (hn : n <= 1000) (hcol : columns <= n) (hS : ∀ r ∈ M0, ∀ x ∈ r, Sz b x) (h5 : 5 <= b) (hb : b * 5 ^ (m - 1) <= 900000) :
 Calls Try.prog 41 #[.slice (some ⟨R, 0, none⟩) m cR, .int .i64 columns] w0 fun e w' => ∃ (l : List Nw) (M : List (List Int)) (top : Nat), e = .returned (.tuple #[.slice (some ⟨R, 0, none⟩) m cR, .int .i64 top]) /\ NMt w' B0 R cR m l n M /\ qCC M0 M n columns top /\ (∀ r ∈ M, ∀ x ∈ r, Sz (eb b m top) x) /\ qH7 w0.heap.size l0 l /\ qAc (fun g => g = R) w0 w' := by
 have HE := hZ (qCC.start (M := M0) (n := n) (fun r hr => by
  obtain ⟨i, hi, rfl⟩ := List.mem_iff_getElem.1 hr; exact (h.row i (by rw [h.lenl, <- h.len]; exact hi) hi).2))
 have HS : Hid (∀ r ∈ M0, ∀ x ∈ r, Sz (eb b m 0) x) := hZ (by rw [qJ4]; exact hS); have HEB : Hid (∀ top, eb b m top <= 900000) := hZ (fun top => Nat.le_trans (qL5 b m top) hb); have HL0 := hZ h.len; have Nm := hZ h; have HBl : Hid (qH7 w0.heap.size l0 l0) := hZ qH7.refl; have HO : Hid (qAc (fun g => g = R) w0 w0) := hZ (qAc.refl _ _); clear h hS hb
 go_enter Try.func41, Try.ntmps41
 go_wp2_with fail
 go_loopw [7, 6] (fun cv tv wr => ∃ (c top : Nat) (l : List Nw) (M : List (List Int)), c <= columns /\ top <= m /\ cv = .int .i64 c /\ tv = .int .i64 top /\ Hid (qCC M0 M n c top) /\ Hid (∀ r ∈ M, ∀ x ∈ r, Sz (eb b m top) x) /\ Hid (NMt wr B0 R cR m l n M) /\ Hid (qH7 w0.heap.size l0 l) /\ Hid (qAc (fun g => g = R) w0 wr)) (fun cv _ _ => columns - (intOf cv).toNat)
 case atStart => exact ⟨0, 0, l0, M0, by omega, by omega, rfl, rfl, HE, HS, Nm, HBl, HO⟩
 case round =>
  clear HE HS Nm HBl HO; obtain ⟨c, top, l, M, hc, htop, rfl, rfl, HE, HS, Nm, HBl, HO⟩ := hrel; obtain ⟨w1, rfl⟩ := eY wr; by_cases hcc : c < columns
  ·as_aux_lemma =>
   have c1 : (c : Int) < (columns : Int) := by omega
   have HLm : Hid (M.length = m) := hZ Nm.o.len; by_cases htm : top < m
   ·as_aux_lemma =>
    have c2 : (top : Int) < (m : Int) := by omega
    obtain ⟨g0, hg0⟩ := qDp.start (qGE.ech HE.o HLm.o h5 HS.o); have HH := hZ hg0; clear hg0; have i1 : (0 : Int) <= (c : Int) := by omega
    have i2 : (c : Int) < (n : Int) := by omega
    go_wp2_with fail
    go_loopg [8] g0 (fun g lv wr => ∃ (left : Nat) (l : List Nw) (M : List (List Int)), lv = .int .i64 left /\ left <= 1000 /\ Hid (qCC M0 M n c top) /\ Hid (qDp M top c (eb b m top) (eb b m (top + 1)) left g) /\ Hid (NMt wr B0 R cR m l n M) /\ Hid (qH7 w0.heap.size l0 l) /\ Hid (qAc (fun g => g = R) w0 wr))
    case atStart => exact ⟨2, l, M, rfl, by omega, HE, HH, Nm, HBl, HO⟩
    case round =>
     clear HE HS HH Nm HBl HO HLm; obtain ⟨lf, l, M, rfl, hlf, HE, HH, Nm, HBl, HO⟩ := hrel; obtain ⟨w1, rfl⟩ := eY wr; have HLm : Hid (M.length = m) := hZ Nm.o.len; have HLl : Hid (l.length = m) := hZ Nm.o.lenl; by_cases hlf2 : lf = 0
     ·as_aux_lemma =>
      subst hlf2
      go_wp2_with fail
      go_roundw
      case rel =>
       rcases HH.o with ⟨h9, -⟩ | ⟨-, hz, hs⟩ | ⟨h9, -⟩
       ·omega
       ·exact ⟨c + 1, top, l, M, by omega, by omega, by go_num, by go_num, hZ (HE.o.col0 hz), hZ hs, Nm, HBl, HO⟩
       ·omega
      case measure => simp [intOf]; omega
     ·as_aux_lemma =>
      by_cases hlf3 : lf = 1
      ·as_aux_lemma =>
       subst hlf3
       go_wp2_with fail
       go_roundw
       case rel =>
        rcases HH.o with ⟨h9, -⟩ | ⟨h9, -⟩ | ⟨-, hz, h0, hs⟩
        ·omega
        ·omega
        ·exact ⟨c + 1, top + 1, l, M, by omega, by omega, by go_num, by go_num, hZ (HE.o.col1 (by rw [HLm.o]; exact htm) hz h0), hZ hs, Nm, HBl, HO⟩
       case measure => simp [intOf]; omega
      ·as_aux_lemma =>
       have l2 : (1 : Int) < (lf : Int) := by omega
       have HCS : Hid (qGF M top c top 0 top) := hZ (qGF.start (by rw [HLm.o]; omega)); have HSb : Hid (∀ i j, Sz (eb b m (top + 1)) (ent M i j)) := hZ (fun i j => by rcases HH.o with ⟨-, -, h9, -⟩ | ⟨h9, -⟩ | ⟨h9, -⟩; exact qJb h9.fin i j; omega; omega); have heb := HEB.o (top + 1); generalize hbb : eb b m (top + 1) = b' at *; have Hbb := hZ hbb; clear hbb
       go_wp2_with fail
       go_loopw [10, 8, 9] (fun iv lv mv wr => ∃ (i left least : Nat), iv = .int .i64 i /\ lv = .int .i64 left /\ mv = .int .i64 least /\ i <= m /\ left <= i /\ least <= m /\ Hid (qGF M top c i left least) /\ Hid (NMt wr B0 R cR m l n M) /\ Hid (qAc (fun g => g = R) w0 wr)) (fun iv _ _ _ => m - (intOf iv).toNat)
       case atStart => exact ⟨top, 0, top, rfl, rfl, rfl, by omega, by omega, by omega, HCS, Nm, HO⟩
       case round =>
        clear HCS Nm HO; obtain ⟨i, left, least, rfl, rfl, rfl, hi, hli, hlm, HC, Nm, HO⟩ := hrel; obtain ⟨w1, rfl⟩ := eY wr; by_cases him : i < m
        ·as_aux_lemma =>
         have him2 : i < l.length := by rw [HLl.o]; exact him
         have him3 : i < M.length := by rw [HLm.o]; exact him
         have hlm2 : least < m := by have h9 := HC.o; have := HC.o.le; rcases Nat.eq_zero_or_pos left with h0 | h0; have := (h9.none h0).1; omega; have := h9.some h0; omega
         have hlm3 : least < l.length := by rw [HLl.o]; exact hlm2
         have j1 : (0 : Int) <= (i : Int) := by omega
         have j2 : (i : Int) < (m : Int) := by omega
         have j3 : (0 : Int) <= (least : Int) := by omega
         have j4 : (least : Int) < (m : Int) := by omega
         have e0x := Nm.o.get i him2; obtain ⟨s_x, a_x, n_x, c_x, d0x, d1x, h_x⟩ := Nm.o.ent i c him2 (by omega); have Sxx : Hid (Sz b' (ent M i c)) := hZ (HSb.o i c); have hlx := Nm.o.row_lt i him2; obtain ⟨x, hxx⟩ := eX (ent M i c); rw [hxx] at h_x Sxx; have Hxx := hZ hxx; have Vx := hZ h_x; clear hxx h_x; obtain ⟨gx, hgx⟩ := eX (l[i].1); obtain ⟨ox, hox⟩ := eX (l[i].2.1); obtain ⟨kx, hkx⟩ := eX (l[i].2.2); simp only [hgx, hox, hkx] at e0x d0x d1x hlx; clear hgx hox hkx
         go_wp2_with fail
         clear e0x d0x d1x; refine (qLP w1 s_x a_x n_x c_x x Vx.o).mono ?_; rintro e w2 ⟨rfl, hB⟩; replace Nm := Nm.b hB; replace Vx := Vx.b hB; replace HO := HO.b hB; clear hB; by_cases hx0 : x = 0
         ·as_aux_lemma =>
          rw [decide_eq_true hx0]
          go_wp2_with fail
          go_roundw
          case rel => exact ⟨i + 1, left, least, by go_num, rfl, rfl, by omega, by omega, hlm, hZ (HC.o.zero him3 (Hxx.o.trans hx0)), Nm, HO⟩
          case measure => simp [intOf]; omega
         ·as_aux_lemma =>
          rw [decide_eq_false hx0]; obtain ⟨L1, hL1⟩ := eX ((left : Int) + 1); have hw1 : IntKind.i64.wrap ((left : Int) + 1) = L1 := by rw [IntWalk.i64_in _ (by omega)]; exact hL1
          have HL1 : Hid (L1 = ((left + 1 : Nat) : Int)) := hZ (by omega); have HNz : Hid (ent M i c ≠ 0) := hZ (by rw [Hxx.o]; exact hx0); have hL0 : 0 < L1 /\ L1 <= 1001 := by omega
          by_cases hl0 : left = 0
          ·as_aux_lemma =>
           have b1 : (L1 == 1) = true := by simp; omega
           go_wp2_with fail
           obtain ⟨w3, hwd⟩ := eX w2.drew; have hB := dB hwd; replace Nm := Nm.b hB; replace Vx := Vx.b hB; replace HO := HO.b hB; clear hB; have HBr : Hid (qAc (fun b => False) w3 w3) := hZ (qAc.refl _ _); refine qAx [] (fun w' => qAc (fun b => False) w3 w') (by kernel_rfl) (by rw [hwd]; exact qAc.refl _ _) (fun hHeld => ?_); rw [hwd] at hHeld ⊢; clear hwd; refine pU 0 46 ?_; refine pU 1 47 ?_; refine pU 2 48 ?_; refine sU 3 49 ?_; refine sU 4 50 ?_; refine sU 5 51 ?_; refine sU 6 52 ?_; refine sU 7 53 ?_; refine sU 8 54 ?_; refine sU 9 55 ?_; refine sU 10 56 ?_; refine sU 11 57 ?_; refine sU 12 58 ?_; refine sU 13 59 ?_; refine sU 14 60 ?_; refine sU 15 61 ?_; refine sU 16 62 ?_; refine sU 17 63 ?_; refine sU 18 64 ?_; refine sU 19 65 ?_; refine sU 20 66 ?_; refine pU 21 67 ?_; refine dU ?_; clear hHeld
           go_wp2_with fail
           go_roundw
           case rel => exact ⟨i + 1, left + 1, i, by go_num, by rw [hl0]; rfl, rfl, by omega, by omega, by omega, hZ (by have h9 := HC.o.step him3 HNz.o; rw [if_pos (.inl (by omega))] at h9; exact h9), Nm, HO⟩
           case measure => simp [intOf]; omega
          ·as_aux_lemma =>
           have b1 : (L1 == 1) = false := by simp; omega
           have hll := HC.o.some (by omega); have HLs := hZ hll; clear hll
           go_wp2_with fail
           obtain ⟨w3, hwd⟩ := eX w2.drew; have hB := dB hwd; replace Nm := Nm.b hB; replace Vx := Vx.b hB; replace HO := HO.b hB; clear hB; have HBr : Hid (qAc (fun b => False) w3 w3) := hZ (qAc.refl _ _); refine qAx [] (fun w' => qAc (fun b => False) w3 w') (by kernel_rfl) (by rw [hwd]; exact qAc.refl _ _) (fun hHeld => ?_); rw [hwd] at hHeld ⊢; clear hwd; have e0x := Nm.o.get i him2; have HG : Hid (∃ s a k cc, w3.cell? ⟨l[i].1, l[i].2.1 + c * 2, none⟩ = some (.bool s) /\ w3.cell? ⟨l[i].1, l[i].2.1 + c * 2 + 1, none⟩ = some (.slice a k cc) /\ qAL w3 (.agg #[.bool s, .slice a k cc]) (ent M i c)) := hZ (Nm.o.ent i c him2 (by omega)); obtain ⟨s_u, a_u, n_u, c_u, d0u, d1u, h_u⟩ := HG.o; rw [Hxx.o] at h_u; have Vu := hZ h_u; have hlu := Nm.o.row_lt i him2; clear h_u HG Vx; obtain ⟨gu, hgu⟩ := eX (l[i].1); obtain ⟨ou, hou⟩ := eX (l[i].2.1); obtain ⟨ku, hku⟩ := eX (l[i].2.2); simp only [hgu, hou, hku] at e0x d0u d1u hlu; clear hgu hou hku; have hlR := Nm.o.lt; have e0y := Nm.o.get least hlm3; obtain ⟨s_y, a_y, n_y, c_y, d0y, d1y, h_y⟩ := Nm.o.ent least c hlm3 (by omega); have Sxy : Hid (Sz b' (ent M least c)) := hZ (HSb.o least c); have hly := Nm.o.row_lt least hlm3; obtain ⟨y, hxy⟩ := eX (ent M least c); rw [hxy] at h_y Sxy; have Hxy := hZ hxy; have Vy := hZ h_y; clear hxy h_y; obtain ⟨gy, hgy⟩ := eX (l[least].1); obtain ⟨oy, hoy⟩ := eX (l[least].2.1); obtain ⟨ky, hky⟩ := eX (l[least].2.2); simp only [hgy, hoy, hky] at e0y d0y d1y hly; clear hgy hoy hky; refine pU 0 46 ?_; refine pU 1 47 ?_; refine pU 2 48 ?_; refine pU 3 49 ?_; refine pU 4 50 ?_; refine pU 5 51 ?_; refine tU 6 52 (cF e0x hlR) ?_; refine pU 7 53 ?_; refine pU 8 54 ?_; refine tV 9 55 (cF d0u hlu) (cF d1u hlu) ?_; refine pU 11 57 ?_; refine pU 12 58 ?_; refine pU 13 59 ?_; refine tU 14 60 (cF e0y hlR) ?_; refine pU 15 61 ?_; refine pU 16 62 ?_; refine tV 17 63 (cF d0y hly) (cF d1y hly) ?_; clear e0x d0u d1u hlu e0y d0y d1y hly hlR; refine eU 10 fun K hK => ?_; go_simp; refine (qLR w3 s_u a_u n_u c_u x b' Vu.o Sxx.o (by omega)).mono ?_; rintro e w4 ⟨s_p, a_p, n_p, c_p, rfl, h_p, hB⟩; have Vp := hZ h_p; replace HBr := oT HBr hB; replace Nm := Nm.b hB; replace Vu := Vu.b hB; replace Vy := Vy.b hB; replace HO := HO.b hB; clear hB; clear h_p; refine hK.out _ _ HBr.o (fun hHeld => ?_); clear hK K
           try simp only [Act.put, sX1, sX2, sX3]
           refine eU 18 fun K hK => ?_; go_simp; refine (qLR w4 s_y a_y n_y c_y y b' Vy.o Sxy.o (by omega)).mono ?_; rintro e w5 ⟨s_q, a_q, n_q, c_q, rfl, h_q, hB⟩; have Vq := hZ h_q; replace HBr := oT HBr hB; replace Nm := Nm.b hB; replace Vu := Vu.b hB; replace Vy := Vy.b hB; replace Vp := Vp.b hB; replace HO := HO.b hB; clear hB; clear h_q; refine hK.out _ _ HBr.o (fun hHeld => ?_); clear hK K
           try simp only [Act.put, sX1, sX2, sX3]
           refine eU 19 fun K hK => ?_; go_simp; refine (qMH (w := w5) (k := b') (l := b') Vp.o Vq.o (Sxx.o.of_le (by simp)) (Sxy.o.of_le (by simp)) (by omega) (by omega)).mono ?_; rintro e w6 ⟨rfl, hB⟩; replace HBr := oT HBr hB; replace Nm := Nm.b hB; replace Vu := Vu.b hB; replace Vy := Vy.b hB; replace Vp := Vp.b hB; replace Vq := Vq.b hB; replace HO := HO.b hB; clear hB; obtain ⟨cv, hcv⟩ := eX (qAK (x.natAbs : Int) (y.natAbs : Int)); rw [hcv]; have hcl : cv < 0 ↔ x.natAbs < y.natAbs := by rw [<- hcv]; exact qJ8 x y
           clear hcv; refine hK.out _ _ HBr.o (fun hHeld => ?_); clear hK K
           try simp only [Act.put, sX1, sX2, sX3]
           by_cases hcn : cv < 0
           ·as_aux_lemma =>
            have b2 : decide (cv < 0) = true := decide_eq_true hcn; refine pU 20 66 ?_; refine pU 21 67 ?_; refine dU ?_; clear hHeld
            go_wp2_with fail
            go_roundw
            case rel => exact ⟨i + 1, left + 1, i, by go_num, by rw [HL1.o], rfl, by omega, by omega, by omega, hZ (by have h9 := HC.o.step him3 HNz.o; rw [if_pos (.inr (by rw [Hxx.o, Hxy.o]; omega))] at h9; exact h9), Nm, HO⟩
            case measure => simp [intOf]; omega
           ·as_aux_lemma =>
            have b2 : decide (cv < 0) = false := decide_eq_false hcn; refine pU 20 66 ?_; refine pU 21 67 ?_; refine dU ?_; clear hHeld
            go_wp2_with fail
            go_roundw
            case rel => exact ⟨i + 1, left + 1, least, by go_num, by rw [HL1.o], rfl, by omega, by omega, by omega, hZ (by have h9 := HC.o.step him3 HNz.o; rw [if_neg (by rw [Hxx.o, Hxy.o]; omega)] at h9; exact h9), Nm, HO⟩
            case measure => simp [intOf]; omega
        ·as_aux_lemma =>
         obtain rfl : i = m := by omega
         have HCm : Hid (qGF M top c M.length left least) := hZ (by rw [HLm.o]; exact HC.o); have HLt : Hid (top <= least /\ least < M.length) := hZ (HCm.o.least_lt (by rw [HLm.o]; exact htm)); have ht2 : top < l.length := by rw [HLl.o]; exact htm
         have hle2 : least < l.length := by have := HLt.o; rw [HLl.o]; rw [HLm.o] at this; omega
         have ht3 : top < M.length := by rw [HLm.o]; exact htm
         have hle3 : least < M.length := HLt.o.2; have k1 : (0 : Int) <= (top : Int) := by omega
         have k2 : (0 : Int) <= (least : Int) := by omega
         have k3 : (least : Int) < (i : Int) := by rw [HLl.o] at hle2; omega
         have HNs := hZ (Nm.o.swap ht2 hle2 ht3 hle3); have e0t := Nm.o.get top ht2; have e0l := Nm.o.get least hle2; have f1 := Nm.o.frozen top; have f2 := Nm.o.frozen least; have HEs := hZ (HE.o.swap ht3 hle3 (Nat.le_refl _) HLt.o.1); have HPv : Hid ((left <= 1 /\ qDp (qAu M top least ht3 hle3) top c (eb b i top) b' left 0) \/ (2 <= left /\ qLt (qAu M top least ht3 hle3) top c (eb b i top) b' gk)) := hZ (by
          by_cases h0 : left = 0
          ·exact .inl ⟨by omega, HH.o.end0 (by omega) HCm.o h0 ht3 hle3⟩
          ·by_cases h1 : left = 1
           ·exact .inl ⟨by omega, HH.o.end1 (by omega) HCm.o h1 ht3 hle3⟩
           ·exact .inr ⟨by omega, HH.o.piv (by omega) HCm.o (by omega) ht3 hle3⟩)
         have hgk : 0 < gk := by rcases HH.o with ⟨-, h9, -⟩ | ⟨h9, -⟩ | ⟨h9, -⟩ <;> omega
         have HBs := hZ (HBl.o.swap ht2 hle2); have HLs1 : Hid ((qAu l top least ht2 hle2).length = i /\ (qAu M top least ht3 hle3).length = i) := hZ ⟨by rw [qAb]; exact HLl.o, by rw [qAb]; exact HLm.o⟩; generalize qAu M top least ht3 hle3 = M1 at *; generalize qAu l top least ht2 hle2 = l1 at *; obtain ⟨gt, hgt⟩ := eX (l[top].1); obtain ⟨ot, hot⟩ := eX (l[top].2.1); obtain ⟨kt, hkt⟩ := eX (l[top].2.2); obtain ⟨gl, hgl⟩ := eX (l[least].1); obtain ⟨ol, hol⟩ := eX (l[least].2.1); obtain ⟨kl, hkl⟩ := eX (l[least].2.2); rw [hgt, hot, hkt] at e0t; rw [hgl, hol, hkl] at e0l; rw [hgt, hot, hkt, hgl, hol, hkl] at HNs; clear hgt hot hkt hgl hol hkl; have ho9 : qAc (fun g => g = R) w1 ((w1.setCell ⟨R, top, none⟩ (.slice (some ⟨gl, ol, none⟩) n kl)).setCell ⟨R, least, none⟩ (.slice (some ⟨gt, ot, none⟩) n kt)) := (qB6 w1 R top _).trans (qB6 _ R least _); obtain ⟨u9, e9⟩ : ∃ u, (w1.setCell ⟨R, top, none⟩ (.slice (some ⟨gl, ol, none⟩) n kl)).cell? ⟨R, least, none⟩ = some u := by rw [qBE e0t]; split; exact ⟨_, rfl⟩; exact ⟨_, e0l⟩
         obtain ⟨w3, hw⟩ := eX ((w1.setCell ⟨R, top, none⟩ (.slice (some ⟨gl, ol, none⟩) n kl)).setCell ⟨R, least, none⟩ (.slice (some ⟨gt, ot, none⟩) n kt)); rw [hw] at HNs ho9; replace HO := hZ (HO.o.trans ho9); clear ho9 Nm HE HH HBl HC HCm HLm HLl HLt ht2 hle2 ht3 hle3 HSb
         go_wp2_with fail
         try clear hw
         try skip
         clear e0t e0l f1 f2; have HRd : Hid (qDs M1 top c (top + 1) M1) := hZ qDs.start
         go_loopw [12] (fun iv wr => ∃ (t : Nat) (l : List Nw) (M2 : List (List Int)), iv = .int .i64 t /\ top + 1 <= t /\ t <= i /\ Hid (left <= 1 -> t = top + 1) /\ Hid (qDs M1 top c t M2) /\ Hid (NMt wr B0 R cR i l n M2) /\ Hid (qH7 w0.heap.size l0 l) /\ Hid (qAc (fun g => g = R) w0 wr)) (fun iv _ => i - (intOf iv).toNat)
         case atStart => exact ⟨top + 1, l1, M1, by go_num, by omega, by omega, hZ (fun _ => rfl), HRd, HNs, HBs, HO⟩
         case round =>
          clear HRd HNs HBs HO; obtain ⟨t, l, M2, rfl, htt, hti, Ht1, HRd, Nm, HBs, HO⟩ := hrel; obtain ⟨w1, rfl⟩ := eY wr; have HL2 : Hid (M2.length = i) := hZ Nm.o.len; have HLl : Hid (l.length = i) := hZ Nm.o.lenl; rcases Nat.lt_or_ge left 2 with hl2 | hl2
          ·as_aux_lemma =>
           have n1 : ¬ (1 : Int) < (left : Int) := by omega
           have HM := hZ HRd.o; by_cases htl : t < i
           ·as_aux_lemma =>
            have n2 : (t : Int) < (i : Int) := by omega
            go_wp2_with fail
            go_roundg 0
            case measure => omega
            case rel =>
             rcases HPv.o with ⟨-, h9⟩ | ⟨h9, -⟩
             ·have h8 := HRd.o
              rw [Ht1.o (by omega)] at h8; have h7 := h8.eq_; subst h7; exact ⟨left, l, M2, rfl, by omega, HEs, hZ h9, Nm, HBs, HO⟩
             ·omega
           ·as_aux_lemma =>
            have n2 : ¬ (t : Int) < (i : Int) := by omega
            go_wp2_with fail
            go_roundg 0
            case measure => omega
            case rel =>
             rcases HPv.o with ⟨-, h9⟩ | ⟨h9, -⟩
             ·have h8 := HRd.o
              rw [Ht1.o (by omega)] at h8; have h7 := h8.eq_; subst h7; exact ⟨left, l, M2, rfl, by omega, HEs, hZ h9, Nm, HBs, HO⟩
             ·omega
          ·as_aux_lemma =>
           have n1 : (1 : Int) < (left : Int) := by omega
           have HP : Hid (qLt M1 top c (eb b i top) b' gk) := hZ (by rcases HPv.o with ⟨h9, -⟩ | ⟨-, h9⟩; omega; exact h9); have ht1 : top < M1.length := by rw [HLs1.o.2]; exact htm
           have HRow := hZ HEs.o.row; by_cases htl : t < i
           ·as_aux_lemma =>
            have n2 : (t : Int) < (i : Int) := by omega
            have n3 : (0 : Int) <= (t : Int) := by omega
            have htl2 : t < l.length := by rw [HLl.o]; exact htl
            have htl3 : t < M1.length := by rw [HLs1.o.2]; exact htl
            have htl4 : t < M2.length := by rw [HL2.o]; exact htl
            have htp2 : top < l.length := by rw [HLl.o]; exact htm
            have htp4 : top < M2.length := by rw [HL2.o]; exact htm
            have HSb : Hid (∀ r ∈ M2, ∀ x ∈ r, Sz b' x) := hZ (HP.o.fin HRow.o ht1 HRd.o); have HEt : Hid (ent M2 t c = ent M1 t c) := hZ (HRd.o.ent_same t (.inr (Nat.le_refl _)) c); have HEp : Hid (ent M2 top c = ent M1 top c) := hZ (HRd.o.ent_same top (.inl (Nat.le_refl _)) c); obtain ⟨x, hx⟩ := eX (ent M1 t c); obtain ⟨y, hy⟩ := eX (ent M1 top c); have Sx : Hid (Sz b' x) := hZ (by rw [<- hx, <- HEt.o]; exact qJb HSb.o _ _); have Sy : Hid (Sz b' y) := hZ (by rw [<- hy, <- HEp.o]; exact qJb HSb.o _ _); have hy0 : y ≠ 0 := by rw [<- hy]; exact HP.o.nz
            rw [hx] at HEt; rw [hy] at HEp; have Hxy := hZ (And.intro hx hy); clear hx hy; have HCt := hZ (Nm.o.ent t c htl2 (by omega)); have HCp := hZ (Nm.o.ent top c htp2 (by omega)); have HGt := hZ (Nm.o.get t htl2); have HGp := hZ (Nm.o.get top htp2); have Hlt := hZ (And.intro (Nm.o.row_lt t htl2) (And.intro (Nm.o.row_lt top htp2) Nm.o.lt)); rw [HEt.o] at HCt; rw [HEp.o] at HCp; have HNt := hZ (Nm.o.row t htl2 htl4); have HNp := hZ (Nm.o.row top htp2 htp4); have HMt : Hid (M2[t]'htl4 = M1[t]'htl3) := hZ (HRd.o.same t htl3 htl4 (.inr (Nat.le_refl _))); have HMp : Hid (M2[top]'htp4 = M1[top]'ht1) := hZ (HRd.o.same top ht1 htp4 (.inl (Nat.le_refl _))); rw [HMt.o] at HNt; rw [HMp.o] at HNp; obtain ⟨gx, hgx⟩ := eX (l[t].1); obtain ⟨ox, hox⟩ := eX (l[t].2.1); obtain ⟨kx, hkx⟩ := eX (l[t].2.2); obtain ⟨gp, hgp⟩ := eX (l[top].1); obtain ⟨op, hop⟩ := eX (l[top].2.1); obtain ⟨kp, hkp⟩ := eX (l[top].2.2); rw [show l[t] = (gx, ox, kx) by rw [<- hgx, <- hox, <- hkx]] at HCt HGt Hlt HNt; rw [show l[top] = (gp, op, kp) by rw [<- hgp, <- hop, <- hkp]] at HCp HGp Hlt HNp; have Htl : Hid (l[t] = (gx, ox, kx) /\ l[top] = (gp, op, kp)) := hZ ⟨by rw [<- hgx, <- hox, <- hkx], by rw [<- hgp, <- hop, <- hkp]⟩; clear hgx hox hkx hgp hop hkp; simp only [] at HCt HGt HCp HGp Hlt
            go_wp2_with fail
            refine qCa (fun t ds a w' => ∃ v97 v98 v99 v100 v101 v102 v103 v104 v105 v106 v107 v108 v109 v110 v111 v96 v112 v113 b13 b14, a = ⟨((((((((((((((((((((t).setIfInBounds 13 (.pointer (some ⟨b13, 0, none⟩))).setIfInBounds 14 (.pointer (some ⟨b14, 0, none⟩))).setIfInBounds 97 v97).setIfInBounds 98 v98).setIfInBounds 99 v99).setIfInBounds 100 v100).setIfInBounds 101 v101).setIfInBounds 102 v102).setIfInBounds 103 v103).setIfInBounds 104 v104).setIfInBounds 105 v105).setIfInBounds 106 v106).setIfInBounds 107 v107).setIfInBounds 108 v108).setIfInBounds 109 v109).setIfInBounds 110 v110).setIfInBounds 111 v111).setIfInBounds 96 v96).setIfInBounds 112 v112).setIfInBounds 113 v113, ds⟩ /\ Hid (Bn w' b13 (x / y)) /\ Hid (Below w1.heap.size w1 w') /\ Hid (w1.heap.size <= b13)) ?_ ?_
            ·as_aux_lemma =>
             have HJ := hZ (Below.refl w1.heap.size w1); obtain ⟨w2, hwd⟩ := eX w1.drew; have hB := dB hwd; replace HJ := bT HJ hB; clear hB; have HBr : Hid (qAc (fun b => w2.heap.size <= b) w2 w2) := hZ (qAc.refl _ _); refine qAx [20, 21] (fun w' => qAc (fun b => w2.heap.size <= b) w2 w') (by kernel_rfl) (by rw [hwd]; exact qAc.refl _ _) (fun hHeld => ?_); rw [hwd] at hHeld ⊢; clear hwd; obtain ⟨s_x, a_x, n_x, c_x, d0x, d1x, h_x⟩ := HCt.o; obtain ⟨s_y, a_y, n_y, c_y, d0y, d1y, h_y⟩ := HCp.o; replace d0x := (HJ.o.cell (p := ⟨gx, ox + c * 2, none⟩) Hlt.o.1).trans d0x; replace d1x := (HJ.o.cell (p := ⟨gx, ox + c * 2 + 1, none⟩) Hlt.o.1).trans d1x; replace d0y := (HJ.o.cell (p := ⟨gp, op + c * 2, none⟩) Hlt.o.2.1).trans d0y; replace d1y := (HJ.o.cell (p := ⟨gp, op + c * 2 + 1, none⟩) Hlt.o.2.1).trans d1y; have e0 := (HJ.o.cell (p := ⟨R, t, none⟩) Hlt.o.2.2).trans HGt.o; have e1 := (HJ.o.cell (p := ⟨R, top, none⟩) Hlt.o.2.2).trans HGp.o; have Vx := hZ (h_x.blw HJ.o); have Vy := hZ (h_y.blw HJ.o); have m0 := Nat.lt_of_lt_of_le Hlt.o.1 HJ.o.size; have m1 := Nat.lt_of_lt_of_le Hlt.o.2.1 HJ.o.size; have m2 := Nat.lt_of_lt_of_le Hlt.o.2.2 HJ.o.size; clear h_x h_y; refine pU 0 97 ?_; refine pU 1 98 ?_; refine pU 2 99 ?_; refine tU 3 100 (cT (Nat.not_le_of_lt m2) e0 m2) ?_; refine pU 4 101 ?_; refine pU 5 102 ?_; refine tV 6 103 (cT (Nat.not_le_of_lt m0) d0x m0) (cT (Nat.not_le_of_lt m0) d1x m0) ?_; refine pU 7 104 ?_; refine pU 8 105 ?_; refine pU 9 106 ?_; refine tU 10 107 (cT (Nat.not_le_of_lt m2) e1 m2) ?_; refine pU 11 108 ?_; refine pU 12 109 ?_; refine tV 13 110 (cT (Nat.not_le_of_lt m1) d0y m1) (cT (Nat.not_le_of_lt m1) d1y m1) ?_; clear e0 e1 d0x d1x d0y d1y m0 m1 m2; have HJs : Hid (w1.heap.size <= w2.heap.size) := hZ HJ.o.size; refine qL1 [14, 18, 19] [15, 16, 17] [(15, 14), (16, 15), (17, 15)] 6 (fun t ds p a w => ∃ v111 v13 v14 v96 v112 v113 b13 b14, a = ⟨((((((t).setIfInBounds 111 v111).setIfInBounds 13 v13).setIfInBounds 14 v14).setIfInBounds 96 v96).setIfInBounds 112 v112).setIfInBounds 113 v113, ds⟩ /\ Hid (Below w2.heap.size w2 w) /\ (p 14 = true -> Hid (qJw w v111 x y)) /\ (p 18 = true -> v13 = .pointer (some ⟨b13, 0, none⟩) /\ Hid (Bn w b13 0) /\ Hid (w2.heap.size <= b13)) /\ (p 19 = true -> v14 = .pointer (some ⟨b14, 0, none⟩) /\ Hid (Bn w b14 0) /\ Hid (w2.heap.size <= b14)) /\ (p 15 = true -> Hid (qJw w v96 x y)) /\ (p 16 = true -> Hid (qAL w v112 (x / y))) /\ (p 17 = true -> Hid (qAL w v113 (x % y))) /\ (p 18 = true -> p 19 = true -> b13 ≠ b14)) ?_ (by kernel_rfl) (by decide) rfl rfl (by kernel_rfl) ⟨?_, ?_, ?_, trivial⟩ ⟨?_, ?_, ?_, trivial⟩ ?_
             ·exact ⟨_, _, _, _, _, _, 0, 0, by first | rfl | (simp only [sX1, sX2, sX3]; rfl), hZ (Below.refl _ _), nofun, nofun, nofun, nofun, nofun, nofun, nofun⟩
             ·as_aux_lemma =>
              intro p a w3 hJ hp; obtain ⟨v111, v13, v14, v96, v112, v113, b13, b14, rfl, HBw, g14, g18, g19, g15, g16, g17, n1819⟩ := hJ; simp only [sX1, sX2, sX3]; refine qBj 14 rfl (fun K hK => ?_); replace Vx := hZ (Vx.o.blw HBw.o); replace Vy := hZ (Vy.o.blw HBw.o); go_simp; refine (qMB (w := w3) Vx.o Vy.o hy0 Sx.o Sy.o (by omega) (by omega)).mono ?_; rintro e w4 ⟨s_u, a_u, n_u, c_u, s_t, a_t, n_t, c_t, rfl, h_u, h_t, hB⟩; exact hK.out _ _ (HBr.o.trans (qAc.of_below (HBw.o.trans (hB.mono HBw.o.size)))) ⟨_, v13, v14, v96, v112, v113, b13, b14, by first | (simp only [Act.put]; done) | (simp only [sX1, sX2, sX3]; rfl), hZ (HBw.o.trans (hB.mono HBw.o.size)), fun _ => hZ (⟨_, _, _, _, _, _, _, _, rfl, h_u, h_t⟩), fun h => ⟨(g18 h).1, hZ ((g18 h).2.1.o.blw hB), (g18 h).2.2⟩, fun h => ⟨(g19 h).1, hZ ((g19 h).2.1.o.blw hB), (g19 h).2.2⟩, fun h => hZ ((g15 h).o.blw hB), fun h => hZ ((g16 h).o.blw hB), fun h => hZ ((g17 h).o.blw hB), n1819⟩
             ·as_aux_lemma =>
              intro p a w3 hJ hp; obtain ⟨v111, v13, v14, v96, v112, v113, b13, b14, rfl, HBw, g14, g18, g19, g15, g16, g17, n1819⟩ := hJ; simp only [sX1, sX2, sX3]; refine qBj 18 rfl (fun K hK => ?_); go_simp; obtain ⟨w4, hw⟩ := eX (w3.alloc (.cells #[.bool false, .slice none 0 0] 61)); have hB := aB hw; have hx : Hid (Bn w4 w3.heap.size 0) := hZ (by rw [<- hw]; exact Bn.new (qCx _)); rw [hw]; clear hw; exact hK.out _ _ (HBr.o.trans (qAc.of_below (HBw.o.trans (hB.mono HBw.o.size)))) ⟨v111, _, v14, v96, v112, v113, w3.heap.size, b14, by first | (simp only [Act.put]; done) | (simp only [sX1, sX2, sX3]; rfl), hZ (HBw.o.trans (hB.mono HBw.o.size)), fun h => hZ ((g14 h).o.blw hB), fun _ => ⟨rfl, hx, hZ HBw.o.size⟩, fun h => ⟨(g19 h).1, hZ ((g19 h).2.1.o.blw hB), (g19 h).2.2⟩, fun h => hZ ((g15 h).o.blw hB), fun h => hZ ((g16 h).o.blw hB), fun h => hZ ((g17 h).o.blw hB), fun _ h => by have := (g19 h).2.1.o.lt; omega⟩
             ·as_aux_lemma =>
              intro p a w3 hJ hp; obtain ⟨v111, v13, v14, v96, v112, v113, b13, b14, rfl, HBw, g14, g18, g19, g15, g16, g17, n1819⟩ := hJ; simp only [sX1, sX2, sX3]; refine qBj 19 rfl (fun K hK => ?_); go_simp; obtain ⟨w4, hw⟩ := eX (w3.alloc (.cells #[.bool false, .slice none 0 0] 61)); have hB := aB hw; have hx : Hid (Bn w4 w3.heap.size 0) := hZ (by rw [<- hw]; exact Bn.new (qCx _)); rw [hw]; clear hw; exact hK.out _ _ (HBr.o.trans (qAc.of_below (HBw.o.trans (hB.mono HBw.o.size)))) ⟨v111, v13, _, v96, v112, v113, b13, w3.heap.size, by first | (simp only [Act.put]; done) | (simp only [sX1, sX2, sX3]; rfl), hZ (HBw.o.trans (hB.mono HBw.o.size)), fun h => hZ ((g14 h).o.blw hB), fun h => ⟨(g18 h).1, hZ ((g18 h).2.1.o.blw hB), (g18 h).2.2⟩, fun _ => ⟨rfl, hx, hZ HBw.o.size⟩, fun h => hZ ((g15 h).o.blw hB), fun h => hZ ((g16 h).o.blw hB), fun h => hZ ((g17 h).o.blw hB), fun h _ => by have := (g18 h).2.1.o.lt; omega⟩
             ·as_aux_lemma =>
              intro p a w3 hJ hp; obtain ⟨v111, v13, v14, v96, v112, v113, b13, b14, rfl, HBw, g14, g18, g19, g15, g16, g17, n1819⟩ := hJ; have Vd := g14 (hp 14 (by simp)); obtain ⟨s_i, a_i, n_i, c_i, s_j, a_j, n_j, c_j, rfl, h_i, h_j⟩ := Vd.o; simp only [sX1, sX2, sX3]; refine qDw 15 96 (v := ?_) rfl rfl (fun _ _ _ h => h) (by rfl) ?_ ?_; rotate_left
              ·(intro w; go_simp; first | done | with_reducible rfl)
              simp only [sX1, sX2, sX3]; exact ⟨_, v13, v14, _, v112, v113, b13, b14, by first | rfl | (simp only [sX1, sX2, sX3]; rfl), HBw, g14, g18, g19, fun _ => hZ (⟨_, _, _, _, _, _, _, _, rfl, h_i, h_j⟩), g16, g17, n1819⟩
             ·as_aux_lemma =>
              intro p a w3 hJ hp; obtain ⟨v111, v13, v14, v96, v112, v113, b13, b14, rfl, HBw, g14, g18, g19, g15, g16, g17, n1819⟩ := hJ; have Vm := g15 (hp 15 (by simp)); obtain ⟨s_k, a_k, n_k, c_k, s_l, a_l, n_l, c_l, rfl, h_k, h_l⟩ := Vm.o; simp only [sX1, sX2, sX3]; refine qDw 16 112 (v := ?_) rfl rfl (fun _ _ _ h => h) (by rfl) ?_ ?_; rotate_left
              ·(intro w; go_simp; first | done | with_reducible rfl)
              simp only [sX1, sX2, sX3]; exact ⟨v111, v13, v14, _, _, v113, b13, b14, by first | rfl | (simp only [sX1, sX2, sX3]; rfl), HBw, g14, g18, g19, g15, fun _ => hZ (h_k), g17, n1819⟩
             ·as_aux_lemma =>
              intro p a w3 hJ hp; obtain ⟨v111, v13, v14, v96, v112, v113, b13, b14, rfl, HBw, g14, g18, g19, g15, g16, g17, n1819⟩ := hJ; have Vm := g15 (hp 15 (by simp)); obtain ⟨s_k, a_k, n_k, c_k, s_l, a_l, n_l, c_l, rfl, h_k, h_l⟩ := Vm.o; simp only [sX1, sX2, sX3]; refine qDw 17 113 (v := ?_) rfl rfl (fun _ _ _ h => h) (by rfl) ?_ ?_; rotate_left
              ·(intro w; go_simp; first | done | with_reducible rfl)
              simp only [sX1, sX2, sX3]; exact ⟨v111, v13, v14, _, v112, _, b13, b14, by first | rfl | (simp only [sX1, sX2, sX3]; rfl), HBw, g14, g18, g19, g15, g16, fun _ => hZ (h_l), n1819⟩
             ·as_aux_lemma =>
              intro p a w3 hJ hp; obtain ⟨v111, v13, v14, v96, v112, v113, b13, b14, rfl, HBw, g14, g18, g19, g15, g16, g17, n1819⟩ := hJ; have Vd := g14 (hp 14 (by simp)); obtain ⟨s_i, a_i, n_i, c_i, s_j, a_j, n_j, c_j, rfl, h_i, h_j⟩ := Vd.o; obtain ⟨rfl, Fq, hge_b13⟩ := g18 (hp 18 (by simp)); replace hge_b13 : w2.heap.size <= b13 := Nat.le_trans HBr.o.size hge_b13.o; obtain ⟨rfl, Fr, hge_b14⟩ := g19 (hp 19 (by simp)); replace hge_b14 : w2.heap.size <= b14 := Nat.le_trans HBr.o.size hge_b14.o; have Vm := g15 (hp 15 (by simp)); obtain ⟨s_k, a_k, n_k, c_k, s_l, a_l, n_l, c_l, rfl, h_k, h_l⟩ := Vm.o; have Vq := g16 (hp 16 (by simp)); obtain ⟨s_q, a_q, n_q, c_q, rfl⟩ := Vq.o.form2; have Vr := g17 (hp 17 (by simp)); obtain ⟨s_r, a_r, n_r, c_r, rfl⟩ := Vr.o.form2; replace n1819 := n1819 (hp 18 (by simp)) (hp 19 (by simp)); clear g14 g18 g19 g15 g16 g17; replace HBr := hZ (HBr.o.trans (qAc.of_below HBw.o)); have hB := HBw.o; simp only [sX1, sX2, sX3]; clear HBw; replace Vx := Vx.b hB; replace Vy := Vy.b hB; replace HJ := bT HJ hB; clear hB; obtain ⟨s_9, a_9, n_9, c_9, t_9, -⟩ := Fq.o; have e0 := t_9.cell0; have e1 := t_9.cell1; have e2 := t_9.frozen 0; have e3 := t_9.frozen 1; clear t_9; have hn9 : qBa w3 (b13) := Fq.o.noInt; obtain ⟨w4, hw⟩ := eX ((w3.setCell ⟨b13, 0, none⟩ (.bool s_q)).setCell ⟨b13, 1, none⟩ (.slice a_q n_q c_q)); have hw2 : st2 w3 (b13) (0) (1) s_q a_q n_q c_q = w4 := hw; replace Fq := hZ (Bn.put Fq.o Vq.o); rw [hw2] at Fq; replace Vx := hZ (Vx.o.offe hw2 hn9); replace Vy := hZ (Vy.o.offe hw2 hn9); replace Fr := hZ (Fr.o.offe hw2 hn9 (by omega)); replace Vq := hZ (Vq.o.offe hw2 hn9); replace Vr := hZ (Vr.o.offe hw2 hn9); replace HJ := hZ (bO hw2 HJ.o (by have := HJs.o; omega)); clear hw2 hn9; refine lU 20 fun K hK => ?_; go_simp
              try rw [hw]
              refine hK.out _ _ ?_; clear hK K
              try simp only [Act.put, sX1, sX2, sX3]
              clear hw e0 e1 e2 e3; obtain ⟨s_9, a_9, n_9, c_9, t_9, -⟩ := Fr.o; have e0 := t_9.cell0; have e1 := t_9.cell1; have e2 := t_9.frozen 0; have e3 := t_9.frozen 1; clear t_9; have hn9 : qBa w4 (b14) := Fr.o.noInt; obtain ⟨w5, hw⟩ := eX ((w4.setCell ⟨b14, 0, none⟩ (.bool s_r)).setCell ⟨b14, 1, none⟩ (.slice a_r n_r c_r)); have hw2 : st2 w4 (b14) (0) (1) s_r a_r n_r c_r = w5 := hw; replace Fr := hZ (Bn.put Fr.o Vr.o); rw [hw2] at Fr; replace Vx := hZ (Vx.o.offe hw2 hn9); replace Vy := hZ (Vy.o.offe hw2 hn9); replace Fq := hZ (Fq.o.offe hw2 hn9 (by omega)); replace Vq := hZ (Vq.o.offe hw2 hn9); replace Vr := hZ (Vr.o.offe hw2 hn9); replace HJ := hZ (bO hw2 HJ.o (by have := HJs.o; omega)); clear hw2 hn9; refine lU 21 fun K hK => ?_; go_simp
              try rw [hw]
              refine hK.out _ _ ?_; clear hK K
              try simp only [Act.put, sX1, sX2, sX3]
              clear hw e0 e1 e2 e3; refine dU ?_; clear hHeld; refine qAp ⟨_, _, _, _, _, _, _, _, _, _, _, _, _, _, _, _, _, _, _, _, by first | rfl | (simp only [sX1, sX2, sX3]; rfl), Fq, HJ, hZ (by have := HJs.o; omega)⟩
            ·as_aux_lemma =>
             rintro a w2 ⟨v97, v98, v99, v100, v101, v102, v103, v104, v105, v106, v107, v108, v109, v110, v111, v96, v112, v113, b13, b14, rfl, Fq, HJ, Hb13⟩; simp only [sX1, sX2, sX3]; have hB := HJ.o; clear HJ Hb13; replace HCt := HCt; replace HNt := hZ (And.intro (HNt.o.1.blw hB) HNt.o.2); replace HNp := hZ (And.intro (HNp.o.1.blw hB) HNp.o.2); clear HCt HCp HGt HGp Hlt; replace Nm := Nm.b hB; replace HO := HO.b hB; clear hB; obtain ⟨z, hz⟩ := eX (x / y); rw [hz] at Fq; have Hz := hZ hz; have Sz_ : Hid (Sz (b' + 1) z) := hZ (hz ▸ Sx.o.div hy0); clear hz
             go_wp2_with fail
             have HNN := hZ (And.intro HNt.o HNp.o); have HD := hZ (Below.refl w2.heap.size w2); obtain ⟨w3, hwd⟩ := eX w2.drew; have hB := dB hwd; replace Nm := Nm.b hB; replace Fq := Fq.b hB; replace HD := bT HD hB; replace HO := HO.b hB; clear hB; have HBr : Hid (qAc (fun b => False) w3 w3) := hZ (qAc.refl _ _); refine qAx [13] (fun w' => qAc (fun b => False) w3 w') (by kernel_rfl) (by rw [hwd]; exact qAc.refl _ _) (fun hHeld => ?_); rw [hwd] at hHeld ⊢; clear hwd; replace HNt := hZ (And.intro (HNt.o.1.blw HD.o) HNt.o.2); replace HNp := hZ (And.intro (HNp.o.1.blw HD.o) HNp.o.2)
             skip
             clear HNN; have e0 := Nm.o.get t htl2; have e1 := Nm.o.get top htp2
             skip
             skip
             obtain ⟨s_q, a_q, n_q, c_q, t_q, h_q⟩ := Fq.o; have d0q := t_q.cell0; have d1q := t_q.cell1; have hlq := t_q.lt; have hlR := Nm.o.lt; have Vq := hZ h_q; clear t_q h_q; rw [Htl.o.1] at e0; rw [Htl.o.2] at e1; refine pU 0 114 ?_; refine pU 1 115 ?_; refine pU 2 116 ?_; refine pU 3 117 ?_; refine pU 4 118 ?_; refine tU 5 119 (cF e0 hlR) ?_; refine pU 6 120 ?_; refine pU 7 121 ?_; refine pU 8 122 ?_; refine tU 9 123 (cF e1 hlR) ?_; refine tV 10 124 (cF d0q hlq) (cF d1q hlq) ?_; clear e0 e1 d0q d1q hlq hlR; refine eU 11 fun K hK => ?_; go_simp; refine (qLS w3 gx ox kx gp op kp n (b' + 1) s_q a_q n_q c_q z (M1[t]'htl3) (M1[top]'ht1) HNt.o.1 HNp.o.1 HNt.o.2 HNp.o.2 hn0 hn Vq.o (fun x hx => (HSb.o _ (HMt.o ▸ List.getElem_mem htl4) x hx).mono (by omega)) (fun x hx => (HSb.o _ (HMp.o ▸ List.getElem_mem htp4) x hx).mono (by omega)) Sz_.o (by omega)).mono ?_; rintro e w4 ⟨g9, c9, rfl, hr9, hge9, hc9, hc92, hB⟩; replace HBr := oT HBr hB; have Rr := hZ hr9; have HGe : Hid (∀ k (hk : k < l.length), l[k].1 < g9) := hZ (fun k hk => Nat.lt_of_lt_of_le (Nm.o.row_lt k hk) hge9); have HGR : Hid (R < g9) := hZ (Nat.lt_of_lt_of_le Nm.o.lt hge9); have HG0 : Hid (w0.heap.size <= g9) := hZ (Nat.le_trans HO.o.size hge9); clear Vq Fq HNt HNp HD; replace Nm := Nm.b hB; replace HO := HO.b hB; clear hB; clear hr9 hge9; refine hK.out _ _ HBr.o (fun hHeld => ?_); clear hK K
             try simp only [Act.put, sX1, sX2, sX3]
             refine pU 12 126 ?_; have e2 := Nm.o.frozen t; have e3 := Nm.o.get t htl2; obtain ⟨w5, hw⟩ := eX (w4.setCell ⟨R, t, none⟩ (.slice (some ⟨g9, 0, none⟩) n c9)); have HNn := hZ (Nm.o.put htl2 Rr.o (by rw [qBr]; exact HEs.o.row _ (List.getElem_mem _)) (fun k hk => by have := HGe.o k hk; omega) (by have := HGR.o; omega) hc9 hc92); rw [hw] at HNn; have ho9 := qB6 w4 R t (.slice (some ⟨g9, 0, none⟩) n c9); rw [hw] at ho9; replace HO := hZ (HO.o.trans ho9); clear ho9; refine lU 13 fun K hK => ?_; go_simp
             try rw [hw]
             refine hK.out _ _ ?_; clear hK K
             try simp only [Act.put, sX1, sX2, sX3]
             clear hw e2 e3 Nm Rr; refine dU ?_; clear hHeld
             go_wp2_with fail
             go_roundw
             case rel => exact ⟨t + 1, l.set t (g9, 0, c9), M2.set t (qCK (M1[t]'htl3) (M1[top]'ht1) z), by go_num, by omega, by omega, hZ (fun h => by omega), hZ (HRd.o.step (by omega) htl3 (by rw [List.getElem?_eq_getElem ht1, Option.getD_some, Hxy.o.1, Hxy.o.2, Hz.o])), HNn, hZ (HBs.o.set HG0.o), HO⟩
             case measure => simp [intOf]; omega
           ·as_aux_lemma =>
            obtain rfl : t = i := by omega
            have n2 : ¬ (t : Int) < (t : Int) := by omega
            go_wp2_with fail
            have HR9 : Hid (qDs M1 top c M1.length M2) := hZ (by rw [HLs1.o.2]; exact HRd.o)
            go_roundg (ent M1 top c).natAbs
            case measure => exact HP.o.lt
            case rel => exact ⟨left, l, M2, rfl, by omega, hZ (HEs.o.red ht1 HR9.o), hZ (HP.o.red HRow.o ht1 HR9.o hl2), Nm, HBs, HO⟩
   ·as_aux_lemma =>
    obtain rfl : top = m := by omega
    have c2 : ¬ (top : Int) < (top : Int) := by omega
    go_wp2_with fail
    exact bodyPost_ret (v := .tuple #[.slice (some ⟨R, 0, none⟩) top cR, .int .i64 top]) (by simp [results, Try.results41, go_sem]) rfl ⟨l, M, top, rfl, Nm.o, HE.o.wide (by omega) (.inr (by rw [HLm.o]; exact Nat.le_refl _)), HS.o, HBl.o, HO.o⟩
  ·as_aux_lemma =>
   obtain rfl : c = columns := by omega
   go_wp2_with fail
   exact bodyPost_ret (v := .tuple #[.slice (some ⟨R, 0, none⟩) m cR, .int .i64 top]) (by simp [results, Try.results41, go_sem]) rfl ⟨l, M, top, rfl, Nm.o, HE.o, HS.o, HBl.o, HO.o⟩
end Go.Proofs.Ytlmbebbdamgfpaa
