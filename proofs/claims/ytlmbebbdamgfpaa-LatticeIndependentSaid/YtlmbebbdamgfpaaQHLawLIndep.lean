/- worldmintlaw06.LatticeIndependent. -/
import Derived.Test.YtlmbebbdamgfpaaQHLFull
import Derived.Test.YtlmbebbdamgfpaaQHR5Of
import Derived.Test.YtlmbebbdamgfpaaQHLNHerm
import Derived.Test.YtlmbebbdamgfpaaQHLTail
import Derived.Test.YtlmbebbdamgfpaaQHLInP
set_option linter.unusedVariables false
set_option linter.unusedSimpArgs false
set_option maxHeartbeats 8000000
set_option maxRecDepth 100000
namespace Go.Proofs.Ytlmbebbdamgfpaa

theorem qIW {m : List (List Int)} {c : Nat} (hc : ∀ r ∈ m, r.length = c) {H : List Vec} (hH : qAw (m.map vec) 0 H) : Ind (m.map vec) ↔ H.length = m.length := by
 obtain ⟨A, M, ps, d, a1, a2, he, h0, hi⟩ := qGm hc; have hA : ∀ r ∈ A, qAa (m.map vec) r := fun r hr => qAa.mem ((a2 r).1 hr); have hA' : ∀ r ∈ m.map vec, qAa A r := fun r hr => qAa.mem ((a2 r).2 hr); obtain ⟨P, p1, p2, -, p4⟩ := hH.nrm.pivots; have key : P = ps := by
  refine qFR p2 he.sorted (fun e => ⟨fun h => ?_, fun h => ?_⟩)
  ·obtain ⟨s, s1, s2⟩ := (p4 e).1 h
   exact he.piv h0 (((qGg hH s).1 (qAa.mem s1)).trans hA') s2
  ·obtain ⟨t, ht, rfl⟩ := List.mem_iff_getElem.1 h
   have htm : t < M.length := Nat.lt_of_lt_of_le ht he.lenM; obtain ⟨m1, m2⟩ := he.mpiv t ht htm; have hs := (he.mspan t htm).trans hA; obtain ⟨s, s1, s2, -⟩ := hH.nrm.piv_dvd (c := ps[t]) ((qGg hH _).2 hs) ⟨m1.1, m1.2⟩; exact (p4 _).2 ⟨s, s1, s2⟩
 rw [hi, <- key, p1, he.len, a1]
theorem qF5 {E : List (List Int)} {ps : List Nat} {n b : Nat} (hs : ps.Pairwise (· < ·)) (hE : ∀ r ∈ E, r.length = n) (hb : ∀ r ∈ E, ∀ x ∈ r, Sz b x) (hp : ∀ i (h : i < E.length) (h' : i < ps.length), qBN (vec E[i]) ps[i]) : ∀ i, i <= ps.length -> i <= E.length -> ∃ O, qIw E ps n b i O
 | 0, _, _ => ⟨[], qIw.start⟩
 | i + 1, h1, h2 => by
  obtain ⟨O, hO⟩ := qF5 hs hE hb hp i (by omega) (by omega); have hd : qHl O (qDP E[i] ps[i]) ps[i] O.length (O.map (fun r => qCK r (qDP E[i] ps[i]) (vec r ps[i] / vec (qDP E[i] ps[i]) ps[i]))) :=
   ⟨by simp, fun j h h' _ => by simp, fun j h h' h3 => by omega⟩
  exact ⟨_, hO.step hs (by omega) (by omega) (hE _ (List.getElem_mem _)) (hp i (by omega) (by omega)) (hb _ (List.getElem_mem _)) hd⟩
theorem qCC.rank {M0 E : List (List Int)} {n b top : Nat} (h : qCC M0 E n n top) (hb : ∀ r ∈ E, ∀ x ∈ r, Sz b x) : ∃ H, qAw (M0.map vec) 0 H /\ H.length = top := by
 obtain ⟨ps, p1, p2, p3, p4⟩ := h.piv; obtain ⟨O, hO⟩ := qF5 p2 h.row hb p4 top (by omega) h.le; exact ⟨_, h.nor hO p1 p2 p3, by rw [List.length_map, hO.len]⟩
theorem qCC.ind {M0 E : List (List Int)} {n b top : Nat} (h : qCC M0 E n n top) (hc : ∀ r ∈ M0, r.length = n) (hb : ∀ r ∈ E, ∀ x ∈ r, Sz b x) : Ind (M0.map vec) ↔ top = M0.length := by
 obtain ⟨H, h1, h2⟩ := h.rank hb; rw [qIW hc h1, h2]
open Go.RowKit
theorem qAZ (w0 : World) (v : Value) (m : List (List Int)) (h : qAA w0 v m) (hm6 : m.length <= 6) : Calls Try.prog 28 #[v] w0 (qJq w0 m) := by
 have H := hZ h; have HB := hZ (Below.refl w0.heap.size w0); obtain ⟨av, cv, rfl, q1, q2⟩ := h.form; obtain ⟨i0, hi, hz0, hz1, hz2⟩ := info_parts qHI; have Hi := hZ hi; have Hz0 := hZ hz0; have Hz1 := hZ hz1; have Hz2 := hZ hz2; have Hm6 := hZ hm6; clear h hi hz0 hz1 hz2
 go_enter Try.func28, Try.ntmps28
 go_wp2_with fail
 refine (qDy _ m w0 H.o).mono ?_; rintro e w1 ⟨rfl, hB⟩; replace HB := bT HB hB; clear hB; by_cases hz : qAt m = 0
 ·skip
  have Hc := hZ (qBt.1 hz); have Hz := hZ hz; rw [hz]; clear hz; obtain ⟨n, hn⟩ := eX (qBx m); have Hn := hZ hn; have Hlen : Hid (∀ r ∈ m, r.length = n) := hZ (hn ▸ Hc.o.len); have hn128 : n <= 128 := hn ▸ Hc.o.cols_; clear hn; by_cases hm0 : m.length = 0
  ·skip
   have Hm0 := hZ hm0; clear hm0; have i3 : ¬ (0 : Int) < (m.length : Int) := by have := Hm0.o; omega
   go_wp2_with fail
   go_loopw [4, 3] (fun iv lv wr => iv = .int .i64 0 /\ lv = .slice none 0 0 /\ Hid (Below w0.heap.size w0 wr)) (fun _ _ _ => 0)
   case atStart => exact ⟨rfl, rfl, HB⟩
   case round =>
    clear HB; obtain ⟨rfl, rfl, HB⟩ := hrel; obtain ⟨w1, rfl⟩ := eY wr
    go_wp2_with fail
    have HP := hZ (qCz w1 none 0 0 0 (.inl rfl) (by omega) (by omega)); refine HP.o.mono ?_; rintro e w2 ⟨rfl, hB⟩; replace HB := bT HB hB; clear hB HP; have z1 : ((0 : Int) == (m.length : Int)) = true := by rw [beq_iff_eq]; have := Hm0.o; omega
    go_wp2_with fail
    exact bodyPost_ret (v := .bool true) (by simp [results, Try.results28, go_sem]) rfl ⟨HB.o, true, rfl, ⟨fun _ => ⟨Hz.o, (qFq (fun r hr => by have := List.length_pos_of_mem hr; have := Hm0.o; omega)).2 Hm0.o⟩, fun _ => rfl⟩⟩
  ·skip
   have z0 : 0 < m.length := by omega
   have Hm0 := hZ hm0; clear hm0
   go_wp2_with fail
   go_loopw [4, 3] (fun iv lv wr => ∃ (i : Nat) (ga : Option Addr) (gc : Nat) (xs : List Value), i <= m.length /\ iv = .int .i64 i /\ lv = .slice ga i gc /\ Hid (NBl wr w0.heap.size (.slice ga i gc) i n (m.take i) xs) /\ Hid (Below w0.heap.size w0 wr)) (fun iv _ _ => m.length - (intOf iv).toNat)
   case atStart => exact ⟨0, none, 0, [], by omega, rfl, rfl, hZ (NBl.nil _ _ _), HB⟩
   case round =>
    clear HB; obtain ⟨i, ga, gc, xs, hi, rfl, rfl, HN, HB⟩ := hrel; obtain ⟨w1, rfl⟩ := eY wr; by_cases him : i < m.length
    ·skip
     have i1 : (0 : Int) <= (i : Int) := by omega
     have i2 : (i : Int) < (m.length : Int) := by omega
     obtain ⟨b, cap, a, c, hv, hb, n0, HR, g1, g2⟩ := H.o.at_ i him; injection hv with f1 f2 f3; subst f1; clear f2 f3; have HLi : Hid (m[i].length = n) := hZ (Hlen.o _ (List.getElem_mem him)); have n1 := (HB.o.cell (p := ⟨b, i, none⟩) hb).trans n0; clear n0 hb g1 g2; have HRow := hZ (qMr w1 _ m[i] (HR.below HB.o) (qFs Hc.o him) (by rw [HLi.o]; omega)); clear HR
     go_wp2_with fail
     clear n1; refine HRow.o.mono ?_; rintro e w2 ⟨u, xs', rfl, hu, hz, hB⟩; clear HRow; obtain ⟨au, cu, rfl, -, -⟩ := hu.form; have HBs := hZ HB.o.size; have HU : Hid (qBH qGI w2 w1.heap.size 61 2 (.slice au n cu) n xs') := hZ (by have h9 := hu; rw [HLi.o] at h9; exact h9); have HZ := hZ hz; have HBr := hZ hB; replace HB := bT HB hB; clear hu hz hB; rw [HLi.o]; have HS2 := hZ HB.o.size
     go_wp2_with (at_builtin; refine qA2 rfl _ _ 50 rfl w0.heap.size 51 i0 _ 1 24 Try.underlying50 Hi.o Hz0.o Hz1.o Hz2.o rfl (by decide) (Q := isS) qDV (.slice ga i gc) i xs rfl (((HN.o.blw HBr.o).blw ((Below.refl _ _).alloc (Nat.le_refl _) _)).1) ⟨w2.heap.size, 0, none⟩ 1 1 [.slice au n cu] rfl rfl (qDb (One.new _ _ _)) (by simp [Value.oneCell']) qFj (by decide) (by unfold maxLen; omega) (by omega) (by simp; have := HS2.o; omega) ?_)
     intro v5 w5 hown hon; obtain ⟨wc, hwc⟩ := eX (w2.alloc (.cells #[.slice au n cu] 51)); have hBc : Below w2.heap.size w2 wc := by rw [<- hwc]; exact (Below.refl _ _).alloc (Nat.le_refl _) _
     have HNc := hZ ((HN.o.blw HBr.o).blw hBc); have HUc := hZ (HU.o.blw hBc); have HZc := hZ (HZ.o.blw hBc); have HBc := hZ (HB.o.trans (hBc.mono HB.o.size)); have HBrc := hZ (HBr.o.trans (hBc.mono HBr.o.size)); clear hBc; rw [hwc] at hon; obtain ⟨a5, c5, rfl, -, -⟩ := hown.form; have HNn := hZ (HN.o.snoc HBrc.o HUc.o HZc.o HLi.o HBs.o hown hon); have HBn := hZ (qAj HBc.o hon (fun b e => (HN.o.1.lt b e).1) HBc.o.size); clear hwc HNc HUc HZc HBc HBrc hown hon HU HZ HBr
     go_wp2_with fail
     go_roundw
     case rel => exact ⟨i + 1, a5, c5, xs ++ [.slice au n cu], by omega, by go_num, rfl, hZ (by rw [List.take_succ_eq_append_getElem him]; exact HNn.o), HBn⟩
     case measure => simp [intOf]; omega
    ·skip
     have hie : i = m.length := by omega
     have HNf : Hid (NBl w1 w0.heap.size (.slice ga m.length gc) m.length n m xs) := hZ (by have h9 := HN.o; rw [hie, List.take_of_length_le (Nat.le_refl _)] at h9; exact h9)
     skip
     clear HN; have Hie := hZ hie; clear hie; obtain ⟨b0, cap0, a0, c0, hv0, hb0, n0, HR0, -, -⟩ := H.o.at_ 0 z0; injection hv0 with f1 f2 f3; subst f1; clear f2 f3 HR0; have Hr0 : Hid ((m[0]'z0).length = n) := hZ (Hlen.o _ (List.getElem_mem _)); rw [Hr0.o] at n0; have d0 := (HB.o.cell (p := ⟨b0, 0, none⟩) hb0).trans n0; clear n0 hb0; have i3 : ¬ (i : Int) < (m.length : Int) := by omega
     have i4 : (0 : Int) < (m.length : Int) := by omega
     go_wp2_with fail
     have hi9 := Hie.o; clear i3 d0; rw [hi9]; clear hi9 him; rcases Nat.eq_zero_or_pos n with hn0 | hn0
     ·skip
      have HP := hZ (qCz w1 ga m.length gc n (.inl hn0) (by omega) (by omega)); refine HP.o.mono ?_; rintro e w2 ⟨rfl, hB⟩; replace HB := bT HB hB; have Hn0 := hZ hn0; clear hB HP hn0; have z1 : ((0 : Int) == (m.length : Int)) = false := by rw [beq_eq_false_iff_ne]; omega
      go_wp2_with fail
      exact bodyPost_ret (v := .bool false) (by simp [results, Try.results28, go_sem]) rfl ⟨HB.o, false, rfl, ⟨fun h => Bool.noConfusion h, fun h => absurd ((qFq (fun r hr => by rw [Hlen.o r hr]; exact Hn0.o)).1 h.2) Hm0.o⟩⟩
     ·skip
      obtain ⟨R, cR, e9, -, -, hRB, -⟩ := HNf.o.1.some_ z0; injection e9 with e1 e2 e3; subst e1 e3; clear e2; obtain ⟨l, hN, hl⟩ := HNf.o.nmt hn0; have HP := hZ (qCY w1 w0.heap.size R gc m.length n n 41 l m hN z0 (by omega) hn0 (by omega) (Nat.le_refl _) Hc.o.sz41 (by omega) (Nat.le_trans (Nat.mul_le_mul_left 41 (Nat.pow_le_pow_right (by omega) (show m.length - 1 <= 5 by omega))) (by decide))); clear hN hl HNf; refine HP.o.mono ?_; rintro e w2 ⟨l2, M, top, rfl, -, k1, k2, -, hO⟩; replace HB := hZ (qAj HB.o hO (fun b e => e ▸ hRB) HB.o.size); have HI := hZ (k1.ind Hlen.o k2); clear HP k1 k2 hO hRB; obtain ⟨t, ht⟩ := eX (decide (top = m.length)); have e9 : ((top : Int) == (m.length : Int)) = t := by rw [<- ht, Bool.eq_iff_iff, beq_iff_eq, decide_eq_true_iff]; omega
      have Ht := hZ ht; clear ht
      go_wp2_with fail
      exact bodyPost_ret (v := .bool t) (by simp [results, Try.results28, go_sem]) rfl ⟨HB.o, t, rfl, ⟨fun h => ⟨Hz.o, HI.o.2 (of_decide_eq_true (Ht.o.trans h))⟩, fun h => Ht.o.symm.trans (decide_eq_true (HI.o.1 h.2))⟩⟩
 ·skip
  have s1 : (qAt m != 0) = true := by simpa using hz
  have s2 : (qAt m == 0) = false := by simpa using hz
  have Hz := hZ hz; clear hz; obtain ⟨z, hz⟩ := eX (qAt m); have Hzz := hZ hz; rw [hz] at s1 s2; clear hz; rw [Hzz.o]
  go_wp2_with fail
  exact bodyPost_ret (v := .bool false) (by simp [results, Try.results28, go_sem]) rfl ⟨HB.o, false, rfl, ⟨fun h => Bool.noConfusion h, fun h => absurd h.1 Hz.o⟩⟩
open Go.RowKit
theorem qA5.ind {m H : List (List Int)} {e : Ending} {w' : World} (h : qA5 H e w') (hk : qBu m (H.map vec)) : ∃ (u : Value) (z : Int) (G : List (List Int)), e = .returned (.tuple #[u, .int .i64 z]) /\ qAA w' u G /\ (z = 0 \/ z = 4) /\ (z = 0 -> (Ind (m.map vec) ↔ G.length = 0)) := by
 rcases h with ⟨rfl, _⟩ | ⟨u, rfl, h1, _⟩
 ·exact ⟨_, _, [], rfl, qAh.nil _ 0 (by omega), .inr rfl, fun h => by simp at h⟩
 ·refine ⟨u, _, H, rfl, h1, .inl rfl, fun _ => (Ind.ker hk).trans ?_⟩
  rw [List.map_eq_nil_iff, List.length_eq_zero_iff]
theorem qDI {a b : Bool} {p : Prop} (h1 : a = true ↔ p) (h2 : b = true ↔ p) : a = b := by
 rw [Bool.eq_iff_iff, h1, h2]
theorem qCu (vl : Value) (zl : List Int) (nl : Nat) (at_ k : Int) (w0 : World) (hl : qB9 w0 vl zl nl) (ha1 : -9223372036854775808 <= at_) (ha2 : at_ <= 9223372036854775807) (hk1 : -9223372036854775808 <= k) (hk2 : k <= 9223372036854775807) :
 Calls Try.prog 9 #[vl, .int .i64 at_, .int .i64 k] w0 fun e w' => e = .returned (.bool true) /\ Below w0.heap.size w0 w' := by
 have HB := hZ (Below.refl w0.heap.size w0); have HL := hZ hl; clear hl
 go_enter Try.func9, Try.ntmps9
 go_wp2_with fail
 refine (qDz vl zl nl 1000000 w0 HL.o (by omega) (by omega)).mono ?_; rintro e w1 ⟨m, u, rfl, hu, hS, hB⟩; have HM := hZ hu; have S := hZ hS; replace HB := bT HB hB; clear hu hS hB HL; obtain ⟨am, cm, rfl, q1, q2⟩ := HM.o.form; obtain ⟨n, hn5, hn⟩ := S.o.cols; have Hlen := hZ hn; have HRows := hZ S.o.rows; clear hn; have HZ : Hid (qAt m = 0) := hZ (qBt.2 ⟨by have := HRows.o; omega, fun r hr => by rw [Hlen.o r hr]; omega, fun r hr => by rw [Hlen.o r hr]; have h0 := List.length_pos_of_mem hr; rw [List.getElem?_eq_getElem h0, Option.getD_some, Hlen.o _ (List.getElem_mem h0)], fun r hr x hx => by have := S.o.ent r hr x hx; omega⟩)
 go_wp2_with fail
 refine (qDD w1 _ m HM.o).mono ?_; rintro e w2 ⟨hB, ⟨hz, -⟩ | ⟨-, H1, k1, -, -, k3⟩⟩
 ·exact absurd HZ.o hz
 obtain ⟨uk, z, G, rfl, hu, hz, hi⟩ := k3.ind k1; have MK' := hZ hu; have Hz := hZ hz; have HI := hZ hi; clear k1 k3 hu hz hi; replace HM := HM.b hB; replace HB := bT HB hB; clear hB; have MK := MK'; clear MK'; obtain ⟨ak, ck, rfl, -, -⟩ := MK.o.form
 go_wp2_with fail
 refine (qAV w2 _ m HM.o).mono ?_; rintro e w3 ⟨hB, t1, rfl, hb⟩; have T1 := hZ hb; clear hb; replace HM := HM.b hB; replace MK := MK.b hB; replace HB := bT HB hB; clear hB
 go_wp2_with fail
 refine (qAZ w3 _ m HM.o (by have := HRows.o; omega)).mono ?_; rintro e w4 ⟨hB, t2, rfl, hb⟩; have T2 := hZ hb; clear hb; replace HM := HM.b hB; replace MK := MK.b hB; replace HB := bT HB hB; clear hB; obtain rfl := qDI T1.o T2.o; clear T2; have s1 : (t1 != t1) = false := by cases t1 <;> rfl
 by_cases hz0 : z = 0
 ·skip
  subst hz0; have HE := hZ (HI.o rfl); clear HI Hz
  go_wp2_with fail
  refine (qAV w4 _ m HM.o).mono ?_; rintro e w5 ⟨hB, t2, rfl, hb⟩; have T2 := hZ hb; clear hb; replace HM := HM.b hB; replace MK := MK.b hB; replace HB := bT HB hB; clear hB; have HT2 : Hid (t2 = decide (G.length = 0)) := hZ (qDI T2.o (by rw [decide_eq_true_iff]; exact ⟨fun h => ⟨HZ.o, HE.o.2 h⟩, fun h => HE.o.1 h.2⟩)); obtain ⟨g, hg⟩ := eX (decide (G.length = 0)); have s4 : ((G.length : Int) == 0) = g := by rw [<- hg, Bool.eq_iff_iff, beq_iff_eq, decide_eq_true_iff]; omega
  rw [hg] at HT2; have ht2 := HT2.o; clear hg HT2 T2; subst ht2; have s5 : (t2 != t2) = false := by cases t2 <;> rfl
  go_wp2_with fail
  clear s1 s4 s5 MK HE
  go_wp2_with fail
  refine (qCD w5 _ m n at_ k HM.o (by have := HRows.o; omega) Hlen.o (by omega) ha1 ha2).mono ?_; rintro e w6 ⟨us, rfl, hy, hB⟩; have HSp' : Hid (qAA w6 us (qC8 m n at_ k)) := hZ (by obtain ⟨l, hl⟩ := hy; exact hl.mat); clear hy; replace HM := HM.b hB; replace HB := bT HB hB; clear hB; obtain ⟨as9, cs9, rfl, -, -⟩ := HSp'.o.form; rw [qBl] at HSp' ⊢; have HSp := HSp'; clear HSp'; have HN := hZ (qD2 w6); obtain ⟨w7, hw8⟩ := eX (w6.alloc (.cells #[] 22)); rw [hw8] at HN; have HS : Hid (Below w6.heap.size w6 w7) := hZ (by rw [<- hw8]; exact (Below.refl _ _).alloc (Nat.le_refl _) _)
  go_wp2_with (at_builtin; refine qCo (W0 := w6) rfl _ _ rfl (.slice (some ⟨w6.heap.size, 0, none⟩) 0 0) (.slice am m.length cm) 0 [] m rfl rfl HM.o HN.o HS.o (by have := HRows.o; omega) ?_)
  intro v3 w8' ms hms ho3 hb3; obtain ⟨w8, rfl⟩ := eY w8'; clear hw8 HN HS; have HO : Hid (w8.ownsRow w6.heap.size 22 1 v3 m.length ms) := hZ (by first | exact ho3.o | (have h9 := ho3.o; rwa [Nat.zero_add, List.nil_append] at h9)); have HS := hb3; clear hb3 ho3; have hra := qAW at_ 4 (by omega); obtain ⟨a3, c3, rfl, -, -⟩ := qCE HO.o
  go_wp2_with fail
  refine (qBn at_ 4 w8 ha1 ha2 (by omega) (by omega)).mono ?_; rintro e w9 ⟨rfl, hw9⟩; subst hw9; obtain ⟨r, hr⟩ := Int.eq_ofNat_of_zero_le (show 0 <= qA9 at_ 4 by omega); rw [hr] at hra ⊢; have hr4 : r < 4 := by omega
  clear hr hra; have HS3 := hZ HS.o.size
  go_wp2_with (at_make; refine qAQ rfl rfl r rfl rfl rfl rfl (by omega) ?_)
  intro w9 hbk hB hlt9; have HO3 := hZ (fun b e => (HO.o.lt b e).2); have HO4 : Hid (w9.ownsRow w6.heap.size 22 1 (.slice a3 m.length c3) m.length ms) := hZ (qFg HO.o hB); clear HO; have HO := HO4; clear HO4; have HR : Hid (qAo w9 (.slice (some ⟨w8.heap.size, 0, none⟩) r r) (List.replicate r 0)) := hZ (by have h9 := qBi (cap := r) (l := List.replicate r (0 : Int)) (by rw [List.map_replicate]; exact hbk) (by rw [List.length_replicate]; exact Nat.le_refl _) (by omega); rwa [List.length_replicate] at h9); obtain ⟨gr, hgr⟩ := eX w8.heap.size; rw [hgr] at HR HO3 ⊢; replace HS := hZ (HS.o.trans (hB.mono HS3.o)); have HS4 := hZ HS.o.size; clear hbk hB hlt9 hgr HS3
  go_wp2_with (at_builtin; refine qAX (W0 := w6) (B := w6.heap.size) qCO rfl _ _ rfl [.slice (some ⟨gr, 0, none⟩) r r] 22 (.slice a3 m.length c3) m.length ms rfl rfl rfl (by simp [Value.oneCell']) HO.o HS.o HS4.o (by have := HRows.o; omega) (by omega) ?_)
  intro g9 c5 w9 ho9 hb9 hon9 hc9 hgg; obtain ⟨w10, rfl⟩ := eY w9; have HR5 : Hid (qAo w10 (.slice (some ⟨gr, 0, none⟩) r r) (List.replicate r 0)) := hZ (qDj HR.o hon9.o (fun b e e2 => by injection e with e; injection e with e _ _; have := HO3.o b e2; omega)); have HT : Hid (qAA w10 (.slice (some ⟨g9, 0, none⟩) (m.length + 1) c5) (m ++ [List.replicate r 0])) := hZ (((hms.o.blw hb9.o).snoc HR5.o).mat ho9.o (by have := hms.o.1; simp; omega)); have HS := hb9; clear hms HR HO HO3 HR5 hon9 hgg ho9 hb9 HS4
  skip
  replace HM := hZ (HM.o.below HS.o); replace HSp := hZ (HSp.o.below HS.o); replace HB := hZ (HB.o.trans (HS.o.mono HB.o.size)); clear HS
  go_wp2_with fail
  refine (qAV w10 _ _ HSp.o).mono ?_; rintro e w11 ⟨hB, t3, rfl, hb⟩; have T3 := hZ hb; clear hb; replace HM := HM.b hB; replace HSp := HSp.b hB; replace HT := HT.b hB; replace HB := bT HB hB; clear hB
  go_wp2_with fail
  refine (qAZ w11 _ _ HSp.o (by rw [qBl]; have := HRows.o; omega)).mono ?_; rintro e w12 ⟨hB, t4, rfl, hb⟩; have T4 := hZ hb; clear hb; replace HM := HM.b hB; replace HSp := HSp.b hB; replace HT := HT.b hB; replace HB := bT HB hB; clear hB; obtain rfl := qDI T3.o T4.o; clear T3 T4; have s3 : (t3 == t3) = true := by cases t3 <;> rfl
  go_wp2_with fail
  clear s3; refine (qAV w12 _ _ HT.o).mono ?_; rintro e w13 ⟨hB, t5, rfl, hb⟩; have T5 := hZ hb; clear hb; replace HM := HM.b hB; replace HSp := HSp.b hB; replace HT := HT.b hB; replace HB := bT HB hB; clear hB
  go_wp2_with fail
  refine (qAZ w13 _ _ HT.o (by rw [List.length_append, List.length_singleton]; have := HRows.o; omega)).mono ?_; rintro e w14 ⟨hB, t6, rfl, hb⟩; have T6 := hZ hb; clear hb; replace HM := HM.b hB; replace HSp := HSp.b hB; replace HT := HT.b hB; replace HB := bT HB hB; clear hB; obtain rfl := qDI T5.o T6.o; clear T5 T6; have s5 : (t5 == t5) = true := by cases t5 <;> rfl
  go_wp2_with fail
  clear s5; refine (qDh w14).mono ?_; rintro e w15 ⟨rfl, hB⟩; replace HM := HM.b hB; replace HSp := HSp.b hB; replace HT := HT.b hB; replace HB := bT HB hB; clear hB
  go_wp2_with fail
  go_ret; exact ⟨rfl, HB.o⟩
 ·skip
  have z1 : (z == 0) = false := by rw [beq_eq_false_iff_ne]; exact hz0
  clear hz0
  go_wp2_with fail
  clear z1 s1
  go_wp2_with fail
  refine (qCD w4 _ m n at_ k HM.o (by have := HRows.o; omega) Hlen.o (by omega) ha1 ha2).mono ?_; rintro e w5 ⟨us, rfl, hy, hB⟩; have HSp' : Hid (qAA w5 us (qC8 m n at_ k)) := hZ (by obtain ⟨l, hl⟩ := hy; exact hl.mat); clear hy; replace HM := HM.b hB; replace MK := MK.b hB; replace HB := bT HB hB; clear hB; obtain ⟨as9, cs9, rfl, -, -⟩ := HSp'.o.form; rw [qBl] at HSp' ⊢; have HSp := HSp'; clear HSp'; have HN := hZ (qD2 w5); obtain ⟨w6, hw8⟩ := eX (w5.alloc (.cells #[] 22)); rw [hw8] at HN; have HS : Hid (Below w5.heap.size w5 w6) := hZ (by rw [<- hw8]; exact (Below.refl _ _).alloc (Nat.le_refl _) _)
  go_wp2_with (at_builtin; refine qCo (W0 := w5) rfl _ _ rfl (.slice (some ⟨w5.heap.size, 0, none⟩) 0 0) (.slice am m.length cm) 0 [] m rfl rfl HM.o HN.o HS.o (by have := HRows.o; omega) ?_)
  intro v3 w7' ms hms ho3 hb3; obtain ⟨w7, rfl⟩ := eY w7'; clear hw8 HN HS; have HO : Hid (w7.ownsRow w5.heap.size 22 1 v3 m.length ms) := hZ (by first | exact ho3.o | (have h9 := ho3.o; rwa [Nat.zero_add, List.nil_append] at h9)); have HS := hb3; clear hb3 ho3; have hra := qAW at_ 4 (by omega); obtain ⟨a3, c3, rfl, -, -⟩ := qCE HO.o
  go_wp2_with fail
  refine (qBn at_ 4 w7 ha1 ha2 (by omega) (by omega)).mono ?_; rintro e w9 ⟨rfl, hw9⟩; subst hw9; obtain ⟨r, hr⟩ := Int.eq_ofNat_of_zero_le (show 0 <= qA9 at_ 4 by omega); rw [hr] at hra ⊢; have hr4 : r < 4 := by omega
  clear hr hra; have HS3 := hZ HS.o.size
  go_wp2_with (at_make; refine qAQ rfl rfl r rfl rfl rfl rfl (by omega) ?_)
  intro w8 hbk hB hlt9; have HO3 := hZ (fun b e => (HO.o.lt b e).2); have HO4 : Hid (w8.ownsRow w5.heap.size 22 1 (.slice a3 m.length c3) m.length ms) := hZ (qFg HO.o hB); clear HO; have HO := HO4; clear HO4; have HR : Hid (qAo w8 (.slice (some ⟨w7.heap.size, 0, none⟩) r r) (List.replicate r 0)) := hZ (by have h9 := qBi (cap := r) (l := List.replicate r (0 : Int)) (by rw [List.map_replicate]; exact hbk) (by rw [List.length_replicate]; exact Nat.le_refl _) (by omega); rwa [List.length_replicate] at h9); obtain ⟨gr, hgr⟩ := eX w7.heap.size; rw [hgr] at HR HO3 ⊢; replace HS := hZ (HS.o.trans (hB.mono HS3.o)); have HS4 := hZ HS.o.size; clear hbk hB hlt9 hgr HS3
  go_wp2_with (at_builtin; refine qAX (W0 := w5) (B := w5.heap.size) qCO rfl _ _ rfl [.slice (some ⟨gr, 0, none⟩) r r] 22 (.slice a3 m.length c3) m.length ms rfl rfl rfl (by simp [Value.oneCell']) HO.o HS.o HS4.o (by have := HRows.o; omega) (by omega) ?_)
  intro g9 c5 w9 ho9 hb9 hon9 hc9 hgg; obtain ⟨w9, rfl⟩ := eY w9; have HR5 : Hid (qAo w9 (.slice (some ⟨gr, 0, none⟩) r r) (List.replicate r 0)) := hZ (qDj HR.o hon9.o (fun b e e2 => by injection e with e; injection e with e _ _; have := HO3.o b e2; omega)); have HT : Hid (qAA w9 (.slice (some ⟨g9, 0, none⟩) (m.length + 1) c5) (m ++ [List.replicate r 0])) := hZ (((hms.o.blw hb9.o).snoc HR5.o).mat ho9.o (by have := hms.o.1; simp; omega)); have HS := hb9; clear hms HR HO HO3 HR5 hon9 hgg ho9 hb9 HS4
  skip
  replace HM := hZ (HM.o.below HS.o); replace MK := hZ (MK.o.below HS.o); replace HSp := hZ (HSp.o.below HS.o); replace HB := hZ (HB.o.trans (HS.o.mono HB.o.size)); clear HS
  go_wp2_with fail
  refine (qAV w9 _ _ HSp.o).mono ?_; rintro e w10 ⟨hB, t3, rfl, hb⟩; have T3 := hZ hb; clear hb; replace HM := HM.b hB; replace MK := MK.b hB; replace HSp := HSp.b hB; replace HT := HT.b hB; replace HB := bT HB hB; clear hB
  go_wp2_with fail
  refine (qAZ w10 _ _ HSp.o (by rw [qBl]; have := HRows.o; omega)).mono ?_; rintro e w11 ⟨hB, t4, rfl, hb⟩; have T4 := hZ hb; clear hb; replace HM := HM.b hB; replace MK := MK.b hB; replace HSp := HSp.b hB; replace HT := HT.b hB; replace HB := bT HB hB; clear hB; obtain rfl := qDI T3.o T4.o; clear T3 T4; have s3 : (t3 == t3) = true := by cases t3 <;> rfl
  go_wp2_with fail
  clear s3; refine (qAV w11 _ _ HT.o).mono ?_; rintro e w12 ⟨hB, t5, rfl, hb⟩; have T5 := hZ hb; clear hb; replace HM := HM.b hB; replace MK := MK.b hB; replace HSp := HSp.b hB; replace HT := HT.b hB; replace HB := bT HB hB; clear hB
  go_wp2_with fail
  refine (qAZ w12 _ _ HT.o (by rw [List.length_append, List.length_singleton]; have := HRows.o; omega)).mono ?_; rintro e w13 ⟨hB, t6, rfl, hb⟩; have T6 := hZ hb; clear hb; replace HM := HM.b hB; replace MK := MK.b hB; replace HSp := HSp.b hB; replace HT := HT.b hB; replace HB := bT HB hB; clear hB; obtain rfl := qDI T5.o T6.o; clear T5 T6; have s5 : (t5 == t5) = true := by cases t5 <;> rfl
  go_wp2_with fail
  clear s5; refine (qDh w13).mono ?_; rintro e w14 ⟨rfl, hB⟩; replace HM := HM.b hB; replace MK := MK.b hB; replace HSp := HSp.b hB; replace HT := HT.b hB; replace HB := bT HB hB; clear hB
  go_wp2_with fail
  go_ret; exact ⟨rfl, HB.o⟩
end Go.Proofs.Ytlmbebbdamgfpaa
