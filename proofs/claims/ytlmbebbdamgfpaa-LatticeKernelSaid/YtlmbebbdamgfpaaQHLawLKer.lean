/- worldmintlaw06.LatticeKernel. -/
import Derived.Test.YtlmbebbdamgfpaaQHLNHerm
import Derived.Test.YtlmbebbdamgfpaaQHLInP
import Derived.Test.YtlmbebbdamgfpaaQHLTail
set_option linter.unusedVariables false
set_option linter.unusedSimpArgs false
set_option maxHeartbeats 8000000
set_option maxRecDepth 100000
namespace Go.Proofs.Ytlmbebbdamgfpaa
open Go.RowKit
def idR (n i : Nat) : List Int := (List.replicate n 0).set i 1
theorem qFr {n i : Nat} : (idR n i).length = n := by simp [idR]
theorem qKo {n i k : Nat} (hk : k < n) : (idR n i)[k]'(by rw [qFr]; exact hk) = if i = k then 1 else 0 := by
 unfold idR; rw [List.getElem_set]
 split
 ·rfl
 ·simp
theorem qK7 {n i k : Nat} (hk : k < n) (h : k = i) (r : List Int) : r ++ (idR n i).take (k + 1) = r ++ (idR n i).take k ++ [1] := by
 rw [List.take_succ_eq_append_getElem (by rw [qFr]; exact hk), qKo hk, if_pos h.symm, List.append_assoc]
theorem qJZ {n i k : Nat} (hk : k < n) (h : k ≠ i) (r : List Int) : r ++ (idR n i).take (k + 1) = r ++ (idR n i).take k ++ [0] := by
 rw [List.take_succ_eq_append_getElem (by rw [qFr]; exact hk), qKo hk, if_neg (Ne.symm h), List.append_assoc]
theorem qI6 (n i : Nat) (r : List Int) : qBL n r i = r ++ (idR n i).take n := by
 rw [List.take_of_length_le (by rw [qFr]; exact Nat.le_refl _)]; rfl
theorem qGd {m : List (List Int)} {i : Nat} (hi : i < m.length) : (qAH m).take (i + 1) = (qAH m).take i ++ [qBL m.length m[i] i] := by
 rw [List.take_succ_eq_append_getElem (by rw [qAs]; exact hi), qA6 m i hi]
theorem qIp {m : List (List Int)} (h : qBK m) : ∀ r ∈ qAH m, ∀ x ∈ r, Sz 41 x := by
 intro r hr x hx; obtain ⟨i, hi, rfl⟩ := List.mem_iff_getElem.1 hr; rw [qAs] at hi; rw [qA6 m i hi] at hx; have e : (2 : Nat) ^ 41 = 2199023255552 := by decide
 rcases List.mem_append.1 hx with h1 | h1
 ·exact h.sz41 _ (List.getElem_mem hi) x h1
 ·unfold Sz
  rw [e]; rcases List.mem_or_eq_of_mem_set h1 with h2 | h2
  ·obtain rfl := List.eq_of_mem_replicate h2; decide
  ·subst h2; decide
theorem qIU {w : World} {base base' : Nat} {e : TypeId} {size : Nat} {v : Value} {n : Nat} {xs : List Value} (h : w.ownsRow base e size v n xs) (hb : base' <= base) : w.ownsRow base' e size v n xs := by
 refine ⟨h.1, ?_⟩; rcases h.2 with h1 | ⟨g, cap, cur, hv, hb', rest⟩
 ·exact .inl h1
 ·exact .inr ⟨g, cap, cur, hv, Nat.le_trans hb hb', rest⟩
def qL9 (c : Nat) (x : Nw) : Nw := (x.1, x.2.1 + c * 2, x.2.2 - c)
structure qJv (w : World) (B : Nat) (v : Value) (l : List Nw) (c n : Nat) (M : List (List Int)) (i : Nat) (xs : List Value) : Prop where
 own : qBH isS w B 51 1 v i xs
 eq : xs = (l.take i).map (fun x => nrV n (qL9 c x))
theorem qJv.mono {w : World} {B B' : Nat} {v : Value} {l : List Nw} {c n i : Nat} {M : List (List Int)} {xs : List Value} (h : qJv w B v l c n M i xs) (hb : B' <= B) : qJv w B' v l c n M i xs :=
 ⟨⟨qIU h.own.1 hb, h.own.2⟩, h.eq⟩
theorem qJv.nou {w : World} {B R cR m c n top i : Nat} {v : Value} {l : List Nw} {M : List (List Int)} {xs : List Value} (h : qJv w B v (l.drop top) c n M i xs) (hm : NMt w B R cR m l (c + n) M) (hi : i = m - top) : NOu w B v ((l.drop top).map (qL9 c)) n ((M.drop top).map (List.drop c)) := by
 have hl := hm.lenl; have hM := hm.len; have hx : xs = ((l.drop top).map (qL9 c)).map (nrV n) := by rw [h.eq, List.take_of_length_le (by rw [List.length_drop]; omega), List.map_map]; rfl
 refine ⟨?_, by simp; omega, fun k hk hk' => ?_, fun k hk => ?_⟩
 ·have h1 := h.own
  rw [hx] at h1; rw [List.length_map, List.length_drop, hl, <- hi]; exact h1
 ·simp only [List.length_map, List.length_drop] at hk hk'
  simp only [List.getElem_map, List.getElem_drop]; obtain ⟨h1, h2⟩ := hm.row (top + k) (by omega) (by omega); exact ⟨h1.from_ c _, by rw [List.length_drop, h2]; omega⟩
 ·simp only [List.length_map, List.length_drop] at hk
  simp only [List.getElem_map, List.getElem_drop]; have := hm.cap (top + k) (by omega); unfold qL9; simp only []; omega
theorem qJv.nmt {w : World} {B R cR m c n top R2 c2 : Nat} {l : List Nw} {M : List (List Int)} {xs : List Value} (h : qJv w B (.slice (some ⟨R2, 0, none⟩) (m - top) c2) (l.drop top) c n M (m - top) xs) (hm : NMt w B R cR m l (c + n) M) (hn : 0 < n) :
 NMt w B R2 c2 (m - top) ((l.drop top).map (qL9 c)) n ((M.drop top).map (List.drop c)) := by
 have hl := hm.lenl; have hM := hm.len; have ho := h.nou hm rfl; have hw := ho.own; rw [List.length_map, List.length_drop, hl] at hw; refine ⟨hw, by simp; omega, by simp; omega, fun k hk hk' => ho.row k hk hk', fun i j hi hj hij => ?_, fun i hi => ?_, ho.cap⟩
 ·simp only [List.length_map, List.length_drop] at hi hj
  simp only [List.getElem_map, List.getElem_drop]; exact hm.nodup (top + i) (top + j) (by omega) (by omega) (by omega)
 ·have h1 := ho.row i hi (by simp only [List.length_map, List.length_drop] at hi ⊢; omega)
  exact qBz hw rfl h1.1 (by rw [h1.2]; exact hn)
theorem qG2 (w0 : World) (v : Value) (m : List (List Int)) (h : qAA w0 v m) (hm6 : m.length <= 6) : Calls Try.prog 19 #[v] w0 (qFG w0 m) := by
 have H := hZ h; have HB := hZ (Below.refl w0.heap.size w0); obtain ⟨av, cv, rfl, q1, q2⟩ := h.form; obtain ⟨i0, hi, hz0, hz1, hz2⟩ := info_parts qHI; have Hi := hZ hi; have Hz0 := hZ hz0; have Hz1 := hZ hz1; have Hz2 := hZ hz2; have Hm6 := hZ hm6; clear h hi hz0 hz1 hz2; obtain ⟨j0, hi, hz0, hz1, hz2⟩ := info_parts qK4; have Ji := hZ hi; have Jz0 := hZ hz0; have Jz1 := hZ hz1; have Jz2 := hZ hz2; clear hi hz0 hz1 hz2
 go_enter Try.func19, Try.ntmps19
 go_wp2_with fail
 refine (qDy _ m w0 H.o).mono ?_; rintro e w1 ⟨rfl, hB⟩; replace HB := bT HB hB; clear hB; by_cases hz : qAt m = 0
 ·skip
  have Hc := hZ (qBt.1 hz); have Hz := hZ hz; rw [hz]; clear hz; obtain ⟨n, hn⟩ := eX (qBx m); have Hn := hZ hn; have Hlen : Hid (∀ r ∈ m, r.length = n) := hZ (hn ▸ Hc.o.len); have hn128 : n <= 128 := hn ▸ Hc.o.cols_; clear hn; by_cases hm0 : m.length = 0
  ·skip
   have z1 : ((m.length : Int) == 0) = true := by rw [beq_iff_eq]; omega
   have Hm0 := hZ hm0; clear hm0
   go_wp2_with fail
   exact bodyPost_ret (v := .tuple #[.slice none 0 0, .int .i64 0]) (by simp [results, Try.results19, go_sem]) rfl ⟨HB.o, .inr ⟨Hz.o, [], qD3 (c := n) Hlen.o (qCg (fun r hr => by have := List.length_pos_of_mem hr; rw [qAs] at this; have := Hm0.o; omega) n), fun r h => by simp at h, by simp, .inr ⟨_, rfl, qAh.nil _ 0 (by omega), fun r h => by simp at h⟩⟩⟩
  ·skip
   have z1 : ((m.length : Int) == 0) = false := by rw [beq_eq_false_iff_ne]; omega
   have z0 : 0 < m.length := by omega
   have Hm0 := hZ hm0; clear hm0; obtain ⟨b0, cap0, a0, c0, hv0, hb0, n0, HR0, -, -⟩ := H.o.at_ 0 z0; injection hv0 with f1 f2 f3; subst f1; clear f2 f3 HR0; have Hr0 : Hid ((m[0]'z0).length = n) := hZ (Hlen.o _ (List.getElem_mem _)); rw [Hr0.o] at n0; have d0 := (HB.o.cell (p := ⟨b0, 0, none⟩) hb0).trans n0; clear n0 hb0; have i4 : (0 : Int) < (m.length : Int) := by omega
   go_wp2_with fail
   clear d0 z1 i4
   go_loopw [7, 6] (fun iv lv wr => ∃ (i : Nat) (ga : Option Addr) (gc : Nat) (xs : List Value), i <= m.length /\ iv = .int .i64 i /\ lv = .slice ga i gc /\ Hid (NBl wr w0.heap.size (.slice ga i gc) i (n + m.length) ((qAH m).take i) xs) /\ Hid (Below w0.heap.size w0 wr)) (fun iv _ _ => m.length - (intOf iv).toNat)
   case atStart => exact ⟨0, none, 0, [], by omega, rfl, rfl, hZ (NBl.nil _ _ _), HB⟩
   case round =>
    clear HB; obtain ⟨i, ga, gc, xs, hi, rfl, rfl, HN, HB⟩ := hrel; obtain ⟨w1, rfl⟩ := eY wr; by_cases him : i < m.length
    ·skip
     have i1 : (0 : Int) <= (i : Int) := by omega
     have i2 : (i : Int) < (m.length : Int) := by omega
     obtain ⟨b, cap, a, c, hv, hb, n0, HR, g1, g2⟩ := H.o.at_ i him; injection hv with f1 f2 f3; injection f1 with f1; injection f1 with f1 _ _; subst f1; clear f2 f3; have HLi : Hid (m[i].length = n) := hZ (Hlen.o _ (List.getElem_mem him)); have n1 := (HB.o.cell (p := ⟨b0, i, none⟩) hb).trans n0; clear n0 hb g1 g2; have HRow := hZ (qMr w1 _ m[i] (HR.below HB.o) (qFs Hc.o him) (by rw [HLi.o]; omega)); clear HR
     go_wp2_with fail
     clear n1; refine HRow.o.mono ?_; rintro e w2 ⟨u, xs', rfl, hu, hz, hB⟩; clear HRow; obtain ⟨au, cu, rfl, -, -⟩ := hu.form; have HBs := hZ HB.o.size; rw [HLi.o] at hu; have HU : Hid (qBH qGI w2 w1.heap.size 61 2 (.slice au (n + 0) cu) (n + 0) xs') := hZ hu; have HZ : Hid (NLs w2 xs' (m[i] ++ (idR m.length i).take 0)) := hZ (by rw [List.take_zero, List.append_nil]; exact hz); have HBr := hZ hB; clear hu hz hB; rw [HLi.o]
     go_wp2_with fail
     go_loopw [9, 8] (fun kv rv wr => ∃ (k : Nat) (gu : Option Addr) (cu : Nat) (ys : List Value), k <= m.length /\ kv = .int .i64 k /\ rv = .slice gu (n + k) cu /\ Hid (qBH qGI wr w1.heap.size 61 2 (.slice gu (n + k) cu) (n + k) ys) /\ Hid (NLs wr ys (m[i] ++ (idR m.length i).take k)) /\ Hid (Below w1.heap.size w1 wr)) (fun kv _ _ => m.length - (intOf kv).toNat)
     case atStart => exact ⟨0, au, cu, xs', by omega, rfl, rfl, HU, HZ, HBr⟩
     case round =>
      clear HU HZ HBr; obtain ⟨k, gu, cu, ys, hk, rfl, rfl, HU, HZ, HBr⟩ := hrel; obtain ⟨w2, rfl⟩ := eY wr; by_cases hkm : k < m.length
      ·skip
       have k1 : (k : Int) < (m.length : Int) := by omega
       by_cases hki : k = i
       ·skip
        have t1 : ((k : Int) == (i : Int)) = true := by rw [beq_iff_eq]; omega
        have t2 : (k == i) = true := by rw [beq_iff_eq]; omega
        have Hki := hZ hki; clear hki
        go_wp2_with fail
        clear t1 t2; refine (nof (w := w2) (x := 1) (by omega) (by omega)).mono ?_; rintro e w3 ⟨s_z, a_z, n_z, c_z, rfl, h_z, hB⟩; have Vz := hZ h_z; replace HU := HU.b hB; replace HZ := HZ.b hB; replace HBr := bT HBr hB; clear hB h_z
        go_wp2_with (at_builtin; refine qA2 rfl _ _ 51 rfl w1.heap.size 61 j0 _ 2 32 Try.underlying51 Ji.o Jz0.o Jz1.o Jz2.o rfl (by decide) qFB _ (n + k) _ rfl (HU.o.blw ((Below.refl _ _).alloc (Nat.le_refl _) _)) ⟨w3.heap.size, 0, none⟩ 1 1 [.bool s_z, .slice a_z n_z c_z] rfl rfl (qDW (Two.new _ _ _ _)) qFi qH0 (by decide) (by unfold maxLen; omega) (by omega) (by simp; have := HBr.o.size; omega) ?_)
        intro v5 w5' hown hon; obtain ⟨w4, hw⟩ := eX (w3.alloc (.cells #[.bool s_z, .slice a_z n_z c_z] 61)); have hB := aB hw; replace hon : qAc (fun b => (Value.slice gu (n + k) cu).ownBlock = some b) w4 w5' := by rw [<- hw]; exact hon
        clear hw; replace HU := HU.b hB; replace HZ := HZ.b hB; replace Vz := Vz.b hB; replace HBr := bT HBr hB; clear hB; have hN : ∀ b, (Value.slice gu (n + k) cu).ownBlock = some b -> qBa w4 b := HU.o.digs; obtain ⟨w5, rfl⟩ := eY w5'; have HZn : Hid (NLs w5 _ (m[i] ++ (idR m.length i).take (k + 1))) := hZ (by rw [qK7 hkm Hki.o]; exact (HZ.o.snoc Vz.o).only hon hN); replace HBr := hZ (qAj HBr.o hon (fun b e => (HU.o.lt b e).1) HBr.o.size); have HUn := hZ hown; clear HU HZ hon hown hN Vz; obtain ⟨a9, c9, rfl, -, -⟩ := HUn.o.form
        go_wp2_with fail
        go_roundw
        case rel => exact ⟨k + 1, a9, c9, _, by omega, by go_num, rfl, HUn, HZn, HBr⟩
        case measure => simp [intOf]; omega
       ·skip
        have t1 : ((k : Int) == (i : Int)) = false := by rw [beq_eq_false_iff_ne]; omega
        have t2 : (k == i) = false := by rw [beq_eq_false_iff_ne]; omega
        have Hki := hZ hki; clear hki; have Vz := hZ (qCx w2)
        go_wp2_with (at_builtin; refine qA2 rfl _ _ 51 rfl w1.heap.size 61 j0 _ 2 32 Try.underlying51 Ji.o Jz0.o Jz1.o Jz2.o rfl (by decide) qFB _ (n + k) _ rfl (HU.o.blw ((Below.refl _ _).alloc (Nat.le_refl _) _)) ⟨w2.heap.size, 0, none⟩ 1 1 [.bool false, .slice none 0 0] rfl rfl (qDW (Two.new _ _ _ _)) qFi qH0 (by decide) (by unfold maxLen; omega) (by omega) (by simp; have := HBr.o.size; omega) ?_)
        intro v5 w5' hown hon; obtain ⟨w3, hw⟩ := eX (w2.alloc (.cells #[.bool false, .slice none 0 0] 61)); have hB := aB hw; replace hon : qAc (fun b => (Value.slice gu (n + k) cu).ownBlock = some b) w3 w5' := by rw [<- hw]; exact hon
        clear hw; replace HU := HU.b hB; replace HZ := HZ.b hB; replace Vz := Vz.b hB; replace HBr := bT HBr hB; clear hB; have hN : ∀ b, (Value.slice gu (n + k) cu).ownBlock = some b -> qBa w3 b := HU.o.digs; obtain ⟨w4, rfl⟩ := eY w5'; have HZn : Hid (NLs w4 _ (m[i] ++ (idR m.length i).take (k + 1))) := hZ (by rw [qJZ hkm Hki.o]; exact (HZ.o.snoc Vz.o).only hon hN); replace HBr := hZ (qAj HBr.o hon (fun b e => (HU.o.lt b e).1) HBr.o.size); have HUn := hZ hown; clear HU HZ hon hown hN Vz; obtain ⟨a9, c9, rfl, -, -⟩ := HUn.o.form
        go_wp2_with fail
        go_roundw
        case rel => exact ⟨k + 1, a9, c9, _, by omega, by go_num, rfl, HUn, HZn, HBr⟩
        case measure => simp [intOf]; omega
      ·skip
       have hke : k = m.length := by omega
       have Hke := hZ hke; have k1 : ¬ (k : Int) < (m.length : Int) := by omega
       clear hke hkm; have HUf : Hid (qBH qGI w2 w1.heap.size 61 2 (.slice gu (n + m.length) cu) (n + m.length) ys) := hZ (by have h9 := HU.o; rw [Hke.o] at h9; exact h9); have HZf : Hid (NLs w2 ys (qBL m.length m[i] i)) := hZ (by have h9 := HZ.o; rw [Hke.o] at h9; rw [qI6]; exact h9); have HLk : Hid ((qBL m.length m[i] i).length = n + m.length) := hZ (by rw [qDE, HLi.o]); replace HB := hZ (HB.o.trans (HBr.o.mono HB.o.size)); clear HU HZ; rw [show n + k = n + m.length by rw [Hke.o]]; have HS2 := hZ HB.o.size
       go_wp2_with (at_builtin; refine qA2 rfl _ _ 50 rfl w0.heap.size 51 i0 _ 1 24 Try.underlying50 Hi.o Hz0.o Hz1.o Hz2.o rfl (by decide) (Q := isS) qDV (.slice ga i gc) i xs rfl (((HN.o.blw HBr.o).blw ((Below.refl _ _).alloc (Nat.le_refl _) _)).1) ⟨w2.heap.size, 0, none⟩ 1 1 [.slice gu (n + m.length) cu] rfl rfl (qDb (One.new _ _ _)) (by simp [Value.oneCell']) qFj (by decide) (by unfold maxLen; omega) (by omega) (by simp; have := HS2.o; omega) ?_)
       intro v5 w5 hown hon; obtain ⟨wc, hwc⟩ := eX (w2.alloc (.cells #[.slice gu (n + m.length) cu] 51)); have hBc : Below w2.heap.size w2 wc := by rw [<- hwc]; exact (Below.refl _ _).alloc (Nat.le_refl _) _
       have HUc := hZ (HUf.o.blw hBc); have HZc := hZ (HZf.o.blw hBc); have HBc := hZ (HB.o.trans (hBc.mono HB.o.size)); have HBrc := hZ (HBr.o.trans (hBc.mono HBr.o.size)); clear hBc; rw [hwc] at hon; obtain ⟨a5, c5, rfl, -, -⟩ := hown.form; have HNn := hZ (HN.o.snoc HBrc.o HUc.o HZc.o HLk.o HBs.o hown hon); have HBn := hZ (qAj HBc.o hon (fun b e => (HN.o.1.lt b e).1) HBc.o.size); clear hwc HUc HZc HBc HBrc hown hon HUf HZf HBr HB
       go_wp2_with fail
       go_roundw
       case rel => exact ⟨i + 1, a5, c5, xs ++ [.slice gu (n + m.length) cu], by omega, by go_num, rfl, hZ (by rw [qGd him]; exact HNn.o), HBn⟩
       case measure => simp [intOf]; omega
    ·skip
     have hie : i = m.length := by omega
     have HNf : Hid (NBl w1 w0.heap.size (.slice ga m.length gc) m.length (n + m.length) (qAH m) xs) := hZ (by have h9 := HN.o; rw [hie, List.take_of_length_le (by rw [qAs]; exact Nat.le_refl _)] at h9; exact h9); clear HN; have Hie := hZ hie; have i3 : ¬ (i : Int) < (m.length : Int) := by omega
     clear hie him
     go_wp2_with fail
     have hi9 := Hie.o; clear i3; rw [hi9]; clear hi9; obtain ⟨R, cR, e9, -, -, hRB, -⟩ := HNf.o.1.some_ z0; injection e9 with e1 e2 e3; subst e1 e3; clear e2; obtain ⟨l, hN, hl⟩ := HNf.o.nmt (by omega); have HP := hZ (qCY w1 w0.heap.size R gc m.length (n + m.length) n 41 l (qAH m) hN z0 (by omega) (by omega) (by omega) (by omega) (qIp Hc.o) (by omega) (Nat.le_trans (Nat.mul_le_mul_left 41 (Nat.pow_le_pow_right (by omega) (show m.length - 1 <= 5 by omega))) (by decide))); have Hl := hZ hl; have HBq := hZ HB.o.size; clear hN hl HNf; refine HP.o.mono ?_; rintro e w2 ⟨l2, M, top, rfl, k0, k1, k2, k3, hO⟩; replace HB := hZ (qAj HB.o hO (fun b e => e ▸ hRB) HB.o.size); have HM := hZ k0; have HE := hZ k1; have HSz := hZ k2; have Hl2 : Hid (∀ x ∈ l2, w0.heap.size <= x.1) := hZ (fun x hx => by rcases k3 x hx with ⟨y, hy, e⟩ | h9; rw [e]; exact Hl.o y hy; exact Nat.le_trans HBq.o h9); have htop : top <= m.length := by have := k1.le; rw [k0.len] at this; exact this
     clear HP k0 k1 k2 k3 hO hRB Hl HBq
     go_wp2_with fail
     obtain ⟨B2, hB2⟩ := eX w2.heap.size; have HR2 : Hid (R < B2 /\ w0.heap.size <= B2) := hZ ⟨hB2 ▸ HM.o.lt, hB2 ▸ HB.o.size⟩; have HS2 : Hid (B2 <= w2.heap.size) := hZ (Nat.le_of_eq hB2.symm); clear hB2; have HC0 : Hid (qJv w2 B2 (.slice none 0 0) (l2.drop top) n m.length M 0 []) := hZ ⟨qBH.nil _ _ _ _, rfl⟩
     go_loopw [13, 12] (fun iv rv wr => ∃ (j : Nat) (ga2 : Option Addr) (gc2 : Nat) (ys : List Value), j <= m.length - top /\ iv = .int .i64 ((top + j : Nat) : Int) /\ rv = .slice ga2 j gc2 /\ Hid (qJv wr B2 (.slice ga2 j gc2) (l2.drop top) n m.length M j ys) /\ Hid (NMt wr w0.heap.size R gc m.length l2 (n + m.length) M) /\ Hid (B2 <= wr.heap.size) /\ Hid (Below w0.heap.size w0 wr)) (fun iv _ _ => m.length - (intOf iv).toNat)
     case atStart => exact ⟨0, none, 0, [], by omega, rfl, rfl, HC0, HM, HS2, HB⟩
     case round =>
      clear HC0 HM HB HS2; obtain ⟨j, ga2, gc2, ys, hj, rfl, rfl, HC, HM, HS2, HB⟩ := hrel; obtain ⟨w2, rfl⟩ := eY wr; by_cases hjm : top + j < m.length
      ·skip
       have i1 : (0 : Int) <= ((top + j : Nat) : Int) := by omega
       have i2 : ((top + j : Nat) : Int) < (m.length : Int) := by omega
       have hjl : top + j < l2.length := by rw [HM.o.lenl]; exact hjm
       have e0 := HM.o.get (top + j) hjl; have Hcp := hZ (HM.o.cap (top + j) hjl); obtain ⟨g, hg⟩ := eX (l2[top + j].1); obtain ⟨o, ho⟩ := eX (l2[top + j].2.1); obtain ⟨q, hq⟩ := eX (l2[top + j].2.2); have Hx : Hid (l2[top + j] = (g, o, q)) := hZ (by rw [<- hg, <- ho, <- hq]); rw [hg, ho, hq] at e0; rw [hq] at Hcp; clear hg ho hq; have c1 : n + m.length <= q := Hcp.o.1; have c2 : q <= 9223372036854775807 := Hcp.o.2; have s1 : (0 : Int) <= (n : Int) := by omega
       have s2 : (n : Int) <= ((n + m.length : Nat) : Int) := by omega
       have HBs := hZ HB.o.size
       go_wp2_with (at_builtin; refine qA2 rfl _ _ 50 rfl B2 51 i0 _ 1 24 Try.underlying50 Hi.o Hz0.o Hz1.o Hz2.o rfl (by decide) (Q := isS) qDV (.slice ga2 j gc2) j ys rfl (HC.o.own.blw ((Below.refl _ _).alloc (Nat.le_refl _) _)) ⟨w2.heap.size, 0, none⟩ 1 1 [(.slice (some ⟨g, o + n * 2, none⟩) m.length (q - n))] rfl rfl (qDb (One.new _ _ _)) (by simp [Value.oneCell']) qFj (by decide) (by unfold maxLen; omega) (by omega) (by simp; have := HS2.o; omega) ?_)
       intro v5 w5' hown hon; obtain ⟨w3, hwc⟩ := eX (w2.alloc (.cells #[(.slice (some ⟨g, o + n * 2, none⟩) m.length (q - n))] 51)); have hB : Below w2.heap.size w2 w3 := by rw [<- hwc]; exact (Below.refl _ _).alloc (Nat.le_refl _) _
       rw [hwc] at hon; clear hwc e0; replace HS2 := hZ (Nat.le_trans HS2.o hB.size); replace HM := HM.b hB; replace HB := bT HB hB; have HCo := hZ (HC.o.own.blw hB); have HCe := hZ HC.o.eq; clear HC hB; obtain ⟨a5, c5, rfl, -, -⟩ := hown.form; obtain ⟨w4, rfl⟩ := eY w5'; have hN := qEh HCo.o; replace HM := hZ (HM.o.only hon hN (fun e => by have := (HCo.o.lt R e).1; have := HR2.o; omega) (fun i hi e => qBz HCo.o e (HM.o.row i hi (by rw [HM.o.len, <- HM.o.lenl]; exact hi)).1 (by rw [(HM.o.row i hi (by rw [HM.o.len, <- HM.o.lenl]; exact hi)).2]; omega) rfl)); replace HB := hZ (qAj HB.o hon (fun b e => by have := (HCo.o.lt b e).1; have := HR2.o; omega) HB.o.size); replace HS2 := hZ (Nat.le_trans HS2.o hon.size); have HCn : Hid (qJv w4 B2 (.slice a5 (j + 1) c5) (l2.drop top) n m.length M (j + 1) (ys ++ [(.slice (some ⟨g, o + n * 2, none⟩) m.length (q - n))])) := hZ ⟨hown, by rw [HCe.o, List.take_succ_eq_append_getElem (by rw [List.length_drop]; omega), List.map_append, List.getElem_drop, Hx.o]; rfl⟩; clear hon hown hN HCo HCe
       go_wp2_with fail
       go_roundw
       case rel => exact ⟨j + 1, a5, c5, _, by omega, by go_num, rfl, HCn, HM, HS2, HB⟩
       case measure => simp [intOf]; omega
      ·skip
       have hje : j = m.length - top := by omega
       have Hje := hZ hje; have HF := hZ (HC.o.mono HR2.o.2); rw [hje] at HF; have i3 : ¬ ((top + j : Nat) : Int) < (m.length : Int) := by omega
       clear hje HC hjm
       go_wp2_with fail
       rw [Hje.o]; clear i3
       skip
       rcases Nat.eq_zero_or_pos (m.length - top) with hmt | hmt
       ·skip
        rw [hmt]; have HP := hZ (qDR w2 ga2 0 gc2 m.length (.inr rfl) (by omega) (by omega)); have Hmt := hZ hmt; clear hmt; refine HP.o.mono ?_; rintro e w3 ⟨rfl, hB⟩; replace HB := bT HB hB; clear hB HP
        go_wp2_with fail
        have HK : Hid (qBu m []) := hZ (qD3 Hlen.o (HE.o.ker (H := []) (by rw [List.drop_eq_nil_of_le (by rw [HM.o.len]; have := Hmt.o; omega)]; exact qCg (fun r h => by simp at h) 0))); refine (qEj w3).mono ?_; rintro e w4 ⟨hB, ⟨rfl, k5⟩ | ⟨u, rfl, k5, k6⟩⟩
        ·skip
         replace HB := bT HB hB; have K5 := hZ k5; clear hB k5
         go_wp2_with fail
         exact bodyPost_ret (v := .tuple #[.slice none 0 0, .int .i64 4]) (by simp [results, Try.results19, go_sem]) rfl ⟨HB.o, .inr ⟨Hz.o, [], HK.o, fun r h => by simp at h, by simp, .inl ⟨rfl, K5.o⟩⟩⟩
        ·skip
         replace HB := bT HB hB; have K5 := hZ k5; have K6 := hZ k6; clear hB k5 k6
         go_wp2_with fail
         exact bodyPost_ret (v := .tuple #[u, .int .i64 0]) (by simp [results, Try.results19, go_sem]) rfl ⟨HB.o, .inr ⟨Hz.o, [], HK.o, fun r h => by simp at h, by simp, .inr ⟨u, rfl, K5.o, K6.o⟩⟩⟩
       ·skip
        obtain ⟨R3, c3, e9, -, -, -, -⟩ := HF.o.own.some_ hmt; injection e9 with e1 e2 e3; subst e1 e3; clear e2; have hN := HF.o.nmt HM.o z0; have hS : ∀ r ∈ (M.drop top).map (List.drop n), ∀ x ∈ r, Sz (eb 41 m.length top) x := fun r hr x hx => by obtain ⟨s, hs, rfl⟩ := List.mem_map.1 hr; exact HSz.o s (List.mem_of_mem_drop hs) x (List.mem_of_mem_drop hx)
        have hb5 : eb 41 m.length top * 5 ^ (m.length - top - 1) <= 200000 := by rw [eb, Nat.mul_assoc, <- Nat.pow_add]; exact Nat.le_trans (Nat.mul_le_mul_left 41 (Nat.pow_le_pow_right (by omega) (show min top (m.length - 1) + (m.length - top - 1) <= 5 by omega))) (by decide)
        have HP := hZ (qEl w2 w0.heap.size R3 gc2 (m.length - top) m.length (eb 41 m.length top) _ _ hN HB.o.size hmt (by omega) z0 (by omega) hS (Nat.le_trans (by decide) (qL6 41 m.length top (by decide))) hb5 (fun x hx => by obtain ⟨y, hy, rfl⟩ := List.mem_map.1 hx; exact Hl2.o y (List.mem_of_mem_drop hy))); clear hN hS hb5; have Hmt := hZ hmt; clear hmt; refine HP.o.mono ?_; rintro e w3 ⟨u, B, l, Hm, rfl, hO, k1, k2, k3, k4, hB⟩; have HO := hZ (qG0 w3 u B m.length 2000000 l Hm hO z0 (by omega) (by omega) k4 (by omega)); replace HB := hZ (HB.o.trans hB); have HK : Hid (qBu m (Hm.map vec)) := hZ (qD3 Hlen.o (HE.o.ker k1)); have K2 := hZ k2; have K3 := hZ k3; clear hB HP k1 k2 k3 k4 hO HF HM
        go_wp2_with fail
        refine HO.o.mono ?_; rintro e w4 ⟨hB, ⟨rfl, k5⟩ | ⟨u, rfl, k5, k6⟩⟩
        ·skip
         replace HB := bT HB hB; have K5 := hZ k5; clear hB k5
         go_wp2_with fail
         exact bodyPost_ret (v := .tuple #[.slice none 0 0, .int .i64 4]) (by simp [results, Try.results19, go_sem]) rfl ⟨HB.o, .inr ⟨Hz.o, Hm, HK.o, K3.o, by have := K2.o; omega, .inl ⟨rfl, K5.o⟩⟩⟩
        ·skip
         replace HB := bT HB hB; have K5 := hZ k5; have K6 := hZ k6; clear hB k5 k6
         go_wp2_with fail
         exact bodyPost_ret (v := .tuple #[u, .int .i64 0]) (by simp [results, Try.results19, go_sem]) rfl ⟨HB.o, .inr ⟨Hz.o, Hm, HK.o, K3.o, by have := K2.o; omega, .inr ⟨u, rfl, K5.o, K6.o⟩⟩⟩
 ·skip
  have s1 : (qAt m != 0) = true := by simpa using hz
  have s2 : (qAt m == 0) = false := by simpa using hz
  have Hz := hZ hz; clear hz; obtain ⟨z, hz⟩ := eX (qAt m); have Hzz := hZ hz; rw [hz] at s1 s2 ⊢; clear hz
  go_wp2_with fail
  exact bodyPost_ret (v := .tuple #[.slice none 0 0, .int .i64 z]) (by simp [results, Try.results19, go_sem]) rfl ⟨HB.o, .inl ⟨Hz.o, by rw [Hzz.o]⟩⟩
open Go.RowKit
theorem qDC (vl : Value) (zl : List Int) (nl : Nat) (at_ k : Int) (w0 : World) (hl : qB9 w0 vl zl nl) (ha1 : -9223372036854775808 <= at_) (ha2 : at_ <= 9223372036854775807) (hk1 : -9223372036854775808 <= k) (hk2 : k <= 9223372036854775807) :
 Calls Try.prog 4 #[vl, .int .i64 at_, .int .i64 k] w0 fun e w' => e = .returned (.bool true) /\ Below w0.heap.size w0 w' := by
 have HB := hZ (Below.refl w0.heap.size w0); have HL := hZ hl; clear hl
 go_enter Try.func4, Try.ntmps4
 go_wp2_with fail
 refine (qDz vl zl nl 1099511627776 w0 HL.o (by omega) (by omega)).mono ?_; rintro e w1 ⟨m, u, rfl, hu, hS, hB⟩; have HM := hZ hu; have S := hZ hS; replace HB := bT HB hB; clear hu hS hB HL; obtain ⟨am, cm, rfl, q1, q2⟩ := HM.o.form; obtain ⟨n, hn5, hn⟩ := S.o.cols; have Hlen := hZ hn; have HRows := hZ S.o.rows; clear hn
 go_wp2_with fail
 refine (qCD w1 _ m n at_ k HM.o (by have := HRows.o; omega) Hlen.o (by omega) ha1 ha2).mono ?_; rintro e w2 ⟨us, rfl, hy, hB⟩; have HSp' : Hid (qAA w2 us (qC8 m n at_ k)) := hZ (by obtain ⟨l, hl⟩ := hy; exact hl.mat); clear hy; replace HM := HM.b hB; replace HB := bT HB hB; clear hB; obtain ⟨as9, cs9, rfl, -, -⟩ := HSp'.o.form; rw [qBl] at HSp' ⊢; have HSp := HSp'; clear HSp'; have HN := hZ (qD2 w2); obtain ⟨w3, hw8⟩ := eX (w2.alloc (.cells #[] 22)); rw [hw8] at HN; have HS : Hid (Below w2.heap.size w2 w3) := hZ (by rw [<- hw8]; exact (Below.refl _ _).alloc (Nat.le_refl _) _)
 go_wp2_with (at_builtin; refine qCo (W0 := w2) rfl _ _ rfl (.slice (some ⟨w2.heap.size, 0, none⟩) 0 0) (.slice am m.length cm) 0 [] m rfl rfl HM.o HN.o HS.o (by have := HRows.o; omega) ?_)
 intro v3 w4' ms hms ho3 hb3; obtain ⟨w4, rfl⟩ := eY w4'; clear hw8 HN HS; have HO : Hid (w4.ownsRow w2.heap.size 22 1 v3 m.length ms) := hZ (by first | exact ho3.o | (have h9 := ho3.o; rwa [Nat.zero_add, List.nil_append] at h9)); have HS := hb3; clear hb3 ho3; have hra := qAW at_ 4 (by omega); obtain ⟨a3, c3, rfl, -, -⟩ := qCE HO.o
 go_wp2_with fail
 refine (qBn at_ 4 w4 ha1 ha2 (by omega) (by omega)).mono ?_; rintro e w9 ⟨rfl, hw9⟩; subst hw9; obtain ⟨r, hr⟩ := Int.eq_ofNat_of_zero_le (show 0 <= qA9 at_ 4 by omega); rw [hr] at hra ⊢; have hr4 : r < 4 := by omega
 clear hr hra; have HS3 := hZ HS.o.size
 go_wp2_with (at_make; refine qAQ rfl rfl r rfl rfl rfl rfl (by omega) ?_)
 intro w5 hbk hB hlt9; have HO3 := hZ (fun b e => (HO.o.lt b e).2); have HO4 : Hid (w5.ownsRow w2.heap.size 22 1 (.slice a3 m.length c3) m.length ms) := hZ (qFg HO.o hB); clear HO; have HO := HO4; clear HO4; have HR : Hid (qAo w5 (.slice (some ⟨w4.heap.size, 0, none⟩) r r) (List.replicate r 0)) := hZ (by have h9 := qBi (cap := r) (l := List.replicate r (0 : Int)) (by rw [List.map_replicate]; exact hbk) (by rw [List.length_replicate]; exact Nat.le_refl _) (by omega); rwa [List.length_replicate] at h9); obtain ⟨gr, hgr⟩ := eX w4.heap.size; rw [hgr] at HR HO3 ⊢; replace HS := hZ (HS.o.trans (hB.mono HS3.o)); have HS4 := hZ HS.o.size; clear hbk hB hlt9 hgr HS3
 go_wp2_with (at_builtin; refine qAX (W0 := w2) (B := w2.heap.size) qCO rfl _ _ rfl [.slice (some ⟨gr, 0, none⟩) r r] 22 (.slice a3 m.length c3) m.length ms rfl rfl rfl (by simp [Value.oneCell']) HO.o HS.o HS4.o (by have := HRows.o; omega) (by omega) ?_)
 intro g9 c5 w9 ho9 hb9 hon9 hc9 hgg; obtain ⟨w6, rfl⟩ := eY w9; have HR5 : Hid (qAo w6 (.slice (some ⟨gr, 0, none⟩) r r) (List.replicate r 0)) := hZ (qDj HR.o hon9.o (fun b e e2 => by injection e with e; injection e with e _ _; have := HO3.o b e2; omega)); have HT : Hid (qAA w6 (.slice (some ⟨g9, 0, none⟩) (m.length + 1) c5) (m ++ [List.replicate r 0])) := hZ (((hms.o.blw hb9.o).snoc HR5.o).mat ho9.o (by have := hms.o.1; simp; omega)); have HS := hb9; clear hms HR HO HO3 HR5 hon9 hgg ho9 hb9 HS4
 skip
 replace HM := hZ (HM.o.below HS.o); replace HSp := hZ (HSp.o.below HS.o); replace HB := hZ (HB.o.trans (HS.o.mono HB.o.size)); clear HS; obtain ⟨w7, hw9⟩ := eX (w6.alloc (.cells #[.slice am m.length cm, .slice as9 m.length cs9, .slice (some ⟨g9, 0, none⟩) (m.length + 1) c5] 23)); have HA : Hid (qDq w7 w6.heap.size) := hZ (by rw [<- hw9]; exact qDq.mk HM.o HSp.o HT.o (by have := HRows.o; omega) (by rw [qBl]; have := HRows.o; omega) (by rw [List.length_append, List.length_singleton]; have := HRows.o; omega)); obtain ⟨b9, hb9⟩ := eX w6.heap.size; rw [hb9] at HA; clear HM HSp HT; have hB : Below w6.heap.size w6 w7 := by rw [<- hw9]; exact (Below.refl _ _).alloc (Nat.le_refl _) _
 replace HB := bT HB hB; clear hB
 go_wp2_with fail
 clear hw9 hb9
 go_loopw [9] (fun iv wr => ∃ j : Nat, j <= 3 /\ iv = .int .i64 j /\ Hid (qDq wr b9) /\ Hid (Below w0.heap.size w0 wr)) (fun iv _ => 3 - (intOf iv).toNat)
 case atStart => exact ⟨0, by omega, rfl, HA, HB⟩
 case round =>
  clear HA HB; obtain ⟨j, hj, rfl, HA, HB⟩ := hrel; obtain ⟨w7, rfl⟩ := eY wr; by_cases hj3 : j < 3
  ·skip
   have j1 : (0 : Int) <= (j : Int) := by omega
   have j2 : (j : Int) < 3 := by omega
   obtain ⟨ax, cx, M, e0, hm, hm6⟩ := HA.o.2 j hj3; have HM := hZ hm; have Hm6 := hZ hm6; have hbl := HA.o.1; clear hm hm6
   go_wp2_with fail
   refine (qDD w7 _ M HM.o).mono ?_; rintro e w8 h9; obtain ⟨hB, u1, z1, H1, rfl, h1, h2⟩ := h9.val; have e1 := (hB.cell (p := ⟨b9, j, none⟩) hbl).trans e0; clear e0; have hbl2 := Nat.lt_of_lt_of_le hbl hB.size; have M1' := hZ h1; have V1 := hZ h2; clear h1 h2 h9; replace HA := HA.b hB; replace HM := HM.b hB; replace HB := bT HB hB; clear hB; have M1 := M1'; clear M1'
   go_wp2_with fail
   refine (qG2 w8 _ M HM.o Hm6.o).mono ?_; rintro e w9 h9; obtain ⟨hB, u2, z2, H2, rfl, h1, h2⟩ := h9.val; clear e1 hbl2; obtain ⟨hz, hH⟩ := V1.o.uniq h2; subst hz; subst hH; have M2' := hZ h1; clear h1 h2 h9; replace HA := HA.b hB; replace HM := HM.b hB; replace M1 := M1.b hB; replace HB := bT HB hB; clear hB; have M2 := M2'; clear M2'; have s1 : (z1 != z1) = false := by simp
   go_wp2_with fail
   refine (qDY _ _ _ _ w9 M1.o M2.o).mono ?_; rintro e w10 ⟨rfl, hB⟩; rw [decide_eq_true rfl]; replace HA := HA.b hB; replace HM := HM.b hB; replace M1 := M1.b hB; replace M2 := M2.b hB; replace HB := bT HB hB; clear hB
   go_wp2_with fail
   go_roundw
   case rel => exact ⟨j + 1, by omega, by go_num, HA, HB⟩
   case measure => simp [intOf]; omega
  ·skip
   obtain rfl : j = 3 := by omega
   go_wp2_with fail
   refine (qDh w7).mono ?_; rintro e w8 ⟨rfl, hB⟩; replace HB := bT HB hB; clear hB
   go_wp2_with fail
   go_ret; exact ⟨rfl, HB.o⟩
end Go.Proofs.Ytlmbebbdamgfpaa
