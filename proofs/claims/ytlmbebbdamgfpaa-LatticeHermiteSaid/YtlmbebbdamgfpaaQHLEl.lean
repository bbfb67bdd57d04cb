/- lattice.eliminate: the walk. -/
import Derived.Test.YtlmbebbdamgfpaaQHLElP
set_option linter.unusedVariables false
set_option linter.unusedSimpArgs false
set_option maxHeartbeats 16000000
set_option maxRecDepth 100000
namespace Go.Proofs.Ytlmbebbdamgfpaa
open Go.RowKit
theorem qK5 : (Try.prog.info? 3).map (fun i => (i.zero, i.size, i.bytes)) = some (some (.int .i64 0), 1, 8) := by kernel_rfl
def LnS (B : Nat) (l : List Ln) (b : Nat) : Prop := b = B \/ ∃ i, ∃ h : i < l.length, b = l[i].1
theorem LnS.swap {B b : Nat} {l : List Ln} {i k : Nat} {hi : i < l.length} {hk : k < l.length} (h : LnS B (qAu l i k hi hk) b) : LnS B l b := by
 rcases h with h | ⟨q, hq, rfl⟩
 ·exact .inl h
 ·rw [qAb] at hq
  rw [qAq q hq]
  split
  ·exact .inr ⟨i, hi, rfl⟩
  ·split
   ·exact .inr ⟨k, hk, rfl⟩
   ·exact .inr ⟨q, hq, rfl⟩
theorem qB0.off {w : World} {B n g o1 o2 : Nat} {l : List Ln} {M : List (List Int)} {s : Bool} {a : Option Addr} {n' c : Nat} (h : qB0 w B l n M) (hg : qAg w g) (hne : ∀ b, LnS B l b -> b ≠ g) : qB0 (st2 w g o1 o2 s a n' c) B l n M :=
 h.only (S := fun b => b = g) ((qAc.refl _ _).off' (.inl rfl)) (fun b e => e ▸ hg) (hne B (.inl rfl)) (fun i hi => hne _ (.inr ⟨i, hi, rfl⟩))
theorem qCt.off {w : World} {base size n g o1 o2 : Nat} {e : TypeId} {v : Value} {xs : List Value} {s' : Bool} {a' : Option Addr} {n' c' : Nat} (h : qCt w base e size v n xs) (hne : ∀ k, v.ownBlock = some k -> k ≠ g) : qCt (st2 w g o1 o2 s' a' n' c') base e size v n xs :=
 h.only (S := fun b => b = g) ((qAc.refl _ _).off' (.inl rfl)) hne
theorem qJ3 {M : List (List Int)} {a b : Nat} (ha : a < M.length) (hb : b < M.length) (j : Nat) : ent (qAu M a b ha hb) a j = ent M b j := by
 unfold ent; rw [List.getElem?_eq_getElem (by rw [qAb]; exact ha), List.getElem?_eq_getElem hb, qAq a ha]; by_cases e : a = b
 ·subst e; simp
 ·simp [e]
theorem qJJ {S T : Nat -> Prop} {w0 w w' : World} (h : qAc S w0 w) (h2 : qAc T w w') (hT : ∀ b, T b -> w0.heap.size <= b) : qAc S w0 w' :=
 ⟨h2.os.trans h.os, h2.tape.trans h.tape, h2.output.trans h.output, Nat.le_trans h.size h2.size, fun k hk hn => (h2.block k (Nat.lt_of_lt_of_le hk h.size) (fun e => by have := hT k e; omega)).trans (h.block k hk hn)⟩
theorem qKi {α : Type} {A B : List α} {i k : Nat} (h : A.length = B.length) (hi : i <= B.length) (hk : k < B.length) : (A.take i ++ B.drop i)[k]'(by rw [qCf h hi]; exact hk) = if k < i then A[k]'(by omega) else B[k] := by
 by_cases e : k < i
 ·rw [if_pos e, List.getElem_append_left (by simp; omega), List.getElem_take]
 ·rw [if_neg e, List.getElem_append_right (by simp; omega), List.getElem_drop]
  congr 1
  simp; omega
theorem qFz (w : World) (v : Value) (t : TypeId) : ∀ j u, [v][j]? = some u -> (w.alloc (.cells #[v] t)).cell? ((⟨w.heap.size, 0, none⟩ : Addr).add j) = some u := by
 intro j u h
 match j, h with
 | 0, h => simp at h; subst h; exact (One.new w t v).cell
 | j + 1, h => simp at h
theorem qKC {α : Type} {A B : List α} {j : Nat} (h : A.length = B.length) (hj : j < B.length) (he : A[j]'(by omega) = B[j]) : A.take j ++ B.drop j = A.take (j + 1) ++ B.drop (j + 1) := by
 rw [<- qB2 h hj]; refine List.ext_getElem (by simp) (fun k h1 h2 => ?_); rw [List.getElem_set]
 split
 ·next e => subst e; rw [qIG h hj, he]
 ·rfl
def qKg (w0 : World) (B n : Nat) (l : List Ln) (M : List (List Int)) (e : Ending) (w' : World) : Prop :=
 ∃ vp s a c' n' d l' M' ps col, e = .returned (.tuple #[vp, .agg #[.bool s, .slice a n' c']]) /\ qAz w' (.agg #[.bool s, .slice a n' c']) d /\ qAo w' vp (ps.map (fun (p : Nat) => (p : Int))) /\ qB0 w' B l' n M' /\ l'.length = l.length /\
  qA1 M M' ps d col /\ (∀ i, ∀ h : i < M'.length, ps.length <= i -> ∀ j, vec M'[i] j = 0) /\ (∀ p ∈ ps, p < n) /\ qAc (LnS B l) w0 w'
theorem qA1.rest {M0 M : List (List Int)} {ps : List Nat} {d : Int} {n : Nat} (h : qA1 M0 M ps d n) (hn : ∀ r ∈ M, r.length = n) : ∀ i, ∀ h : i < M.length, ps.length <= i -> ∀ j, vec M[i] j = 0 := by
 obtain ⟨A, e1, e2, e3, -⟩ := h; intro i hi hp j; rcases Nat.lt_or_ge j n with hj | hj
 ·have := e3.zero i (by simpa using hi) hp j hj
  simpa using this
 ·exact qAr (by rw [hn _ (List.getElem_mem _)]; exact hj)
theorem qA1.plt {M0 M : List (List Int)} {ps : List Nat} {d : Int} {col : Nat} (h : qA1 M0 M ps d col) : ∀ p ∈ ps, p < col := by obtain ⟨A, e1, e2, e3, -⟩ := h; exact e3.lt
theorem qB0.rowsN {w : World} {B n : Nat} {l : List Ln} {M : List (List Int)} (h : qB0 w B l n M) : ∀ r ∈ M, r.length = n := by
 intro r hr; obtain ⟨i, hi, rfl⟩ := List.mem_iff_getElem.1 hr; exact (h.row i (by rw [<- h.len]; exact hi)).2
theorem qB0.rowLt {w : World} {B n : Nat} {l : List Ln} {M : List (List Int)} (h : qB0 w B l n M) (i : Nat) (hi : i < l.length) : l[i].1 < w.heap.size := (h.row i hi).1.lt
theorem qDk (w0 : World) (B cB n : Nat) (l0 : List Ln) (M0 : List (List Int)) (h : qB0 w0 B l0 n M0) (hl0 : 0 < l0.length) (hcB : l0.length <= cB) (hcB2 : cB <= 9223372036854775807) (hn : n <= 1000) (hs : Sml M0) :
 Calls Try.prog 50 #[.slice (some ⟨B, 0, none⟩) l0.length cB] w0 (qKg w0 B n l0 M0) := by
 obtain ⟨i0, hi, hz0, hz1, hz2⟩ := info_parts qK5; have Hi := hZ hi; have Hz0 := hZ hz0; have Hz1 := hZ hz1; have Hz2 := hZ hz2; clear hi hz0 hz1 hz2; have K := hZ h; have HO := hZ (qAc.refl (LnS B l0) w0); have HS := hZ hs; have hl64 : l0.length <= 64 := by rw [<- h.len]; exact hs.1
 have HE := hZ (qA1.start M0); have HB0 := hZ h.lt; have HL : Hid (∀ b, LnS B l0 b -> LnS B l0 b) := hZ (fun _ h => h); have HLT0 : Hid (∀ b, LnS B l0 b -> b < w0.heap.size) := hZ (fun b hb => by
  rcases hb with rfl | ⟨i, hi, rfl⟩
  ·exact h.lt
  ·exact h.rowLt i hi)
 clear h hs; obtain ⟨w1, hw⟩ := eX (w0.alloc (.cells #[.bool false, .slice none 0 0] 58)); have hB := aB hw; obtain ⟨br, hb⟩ := eX w0.heap.size; have Tr' : Hid (Two w1 br 58 (.bool false) (.slice none 0 0)) := hZ (by rw [<- hw, <- hb]; exact Two.new w0 58 (.bool false) (.slice none 0 0)); have Hbr : Hid (w0.heap.size <= br) := hZ (by omega); replace K := K.b hB; replace HO := HO.b hB; clear hB; have Tr := Tr'; clear Tr'
 go_enter Try.func50, Try.ntmps50
 go_wp2_with fail
 clear hw hb; refine (qEt (w := w1) 1 (by omega) (by omega)).mono ?_; rintro e w2 ⟨s_u, a_u, n_u, c_u, rfl, h_u, hB⟩; have Vu := hZ h_u; replace K := K.b hB; replace Tr := Tr.b hB; replace HO := HO.b hB; clear hB; clear h_u; have Hlr := hZ Tr.o.lt; obtain ⟨w3, hw⟩ := eX ((w2.alloc (.cells #[.bool s_u, .slice a_u n_u c_u] 58))); have hB := aB hw; obtain ⟨bd, hb_bd⟩ := eX w2.heap.size; have h9 := Bx.new (w := w2) Vu.o; rw [hw, hb_bd] at h9; have Fd' := hZ h9; have hge_bd : w2.heap.size <= bd := by omega
 clear h9; replace K := K.b hB; replace Tr := Tr.b hB; replace Vu := Vu.b hB; replace HO := HO.b hB; have Fd := Fd'; clear Fd'; clear hB; have Hbd : Hid (br < bd) := hZ (by have := Hlr.o; omega); clear hge_bd Hlr; have hl1 : (0 : Int) < (l0.length : Int) := by omega
 have hl2 : ((l0.length : Int) == 0) = false := by rw [beq_eq_false_iff_ne]; omega
 have hl3 : (l0.length == 0) = false := by rw [beq_eq_false_iff_ne]; omega
 obtain ⟨x0, x1⟩ := K.o.get 0 hl0; simp only [Nat.zero_mul] at x0 x1; generalize l0[0].1 = g0 at *; generalize l0[0].2.1 = gc0 at *
 go_wp2_with fail
 clear hw hb_bd; clear Vu; clear x0 x1 hl2 hl3; obtain ⟨B0, hB0⟩ := eX w3.heap.size; have HB1 : Hid (br < B0 /\ bd < B0 /\ w0.heap.size <= B0) := hZ (by rw [<- hB0]; exact ⟨Tr.o.lt, Fd.o.lt, HO.o.size⟩); have Wp : Hid (qCt w3 B0 3 1 (.slice none 0 0) ([] : List Nat).length (([] : List Nat).map (iv .i64))) := hZ (qCt.nil _ _ _ _); have Hsz : Hid (B0 <= w3.heap.size) := hZ (by omega); clear hB0
 go_loopw [22, 5] (fun i vp wr => ∃ (j : Nat) (l : List Ln) (M : List (List Int)) (ps : List Nat) (d : Int), j <= n /\ i = .int .i64 j /\ Hid (qA1 M0 M ps d j) /\ Hid (qB0 wr B l n M) /\ Hid (l.length = l0.length /\ ∀ b, LnS B l b -> LnS B l0 b) /\ Hid (Two wr br 58 (.bool false) (.slice none 0 0)) /\ Hid (Bx wr bd d) /\ Hid (qCt wr B0 3 1 vp ps.length (ps.map (iv .i64))) /\ Hid (B0 <= wr.heap.size) /\ Hid (qAc (LnS B l0) w0 wr)) (fun i _ _ => n - (intOf i).toNat)
 case atStart => exact ⟨0, l0, M0, [], 1, by omega, rfl, HE, K, hZ ⟨rfl, HL.o⟩, Tr, Fd, Wp, Hsz, HO⟩
 case round =>
  clear HE K Tr Fd Wp Hsz HO HL; obtain ⟨j, l, M, ps, d, hj, rfl, HE, K, HL, Tr, Fd, Wp, Hsz, HO⟩ := hrel; obtain ⟨w3, rfl⟩ := eY wr; obtain ⟨pa, pc, hv, hpc1, hpc2⟩ := Wp.o.form; subst hv; have hl := HL.o.1; have hlm := K.o.len; have hpl : ps.length <= l.length := by have := HE.o.le; omega
  by_cases hlt : j < n
  ·skip
   have i1 : (0 : Int) <= (j : Int) := by omega
   have i2 : (j : Int) < (n : Int) := by omega
   obtain ⟨w4, hw⟩ := eX (w3.alloc (.cells #[.int .i64 (j : Int)] 3)); have hB := aB hw; obtain ⟨bc, hb⟩ := eX w3.heap.size; have Oc' : Hid (One w4 bc 3 (.int .i64 (j : Int))) := hZ (by rw [<- hw, <- hb]; exact One.new _ _ _); have Hbc : Hid (B0 <= bc /\ ∀ k, (Value.slice pa ps.length pc).ownBlock = some k -> k < bc) := hZ ⟨by have := Hsz.o; omega, fun k hk => by have := (Wp.o.lt k hk).2; omega⟩; have Hrows : Hid (∀ b, LnS B l b -> b < w0.heap.size) := hZ (fun b hb2 => HLT0.o b (HL.o.2 b hb2)); replace Hsz := hZ (Nat.le_trans Hsz.o hB.size); replace K := K.b hB; replace Tr := Tr.b hB; replace Fd := Fd.b hB; replace Wp := Wp.b hB; replace HO := HO.b hB; clear hB; have Oc := Oc'; clear Oc'; by_cases hpe : ps.length = l.length
   ·skip
    have s1 : ((ps.length : Int) == (l.length : Int)) = true := by simp [hpe]
    have s2 : (ps.length == l.length) = true := by simp [hpe]
    have s3 : ((ps.length : Int) == (l0.length : Int)) = true := by rw [<- hl]; exact s1
    have s4 : (ps.length == l0.length) = true := by rw [<- hl]; exact s2
    have Hpe := hZ hpe; clear hpe
    go_wp2_with fail
    clear hw hb s1 s2 s3 s4; obtain ⟨w5, hwd⟩ := eX w4.drew; have hB := dB hwd; replace K := K.b hB; replace Tr := Tr.b hB; replace Fd := Fd.b hB; replace Wp := Wp.b hB; replace Oc := Oc.b hB; replace HO := HO.b hB; clear hB; have HBr : Hid (qAc (fun b => False) w5 w5) := hZ (qAc.refl _ _); refine qAx [3] (fun w' => qAc (fun b => False) w5 w') (by kernel_rfl) (by rw [hwd]; exact qAc.refl _ _) (fun hHeld => ?_); rw [hwd] at hHeld ⊢; clear hwd; obtain ⟨s_d, a_d, n_d, c_d, t_d, h_d⟩ := Fd.o; have d0d := t_d.cell0; have d1d := t_d.cell1; have Vd := hZ h_d; clear t_d h_d; refine pU 0 68 ?_; refine tV 1 69 (cF d0d Fd.o.lt) (cF d1d Fd.o.lt) ?_; clear d0d d1d; refine pU 2 2 ?_; have e0 := Tr.o.cell0; have e1 := Tr.o.cell1; have e2 := Tr.o.frozen 0; have e3 := Tr.o.frozen 1; have hn9 : qAg w5 (br) := Tr.o.noInt (fun _ h => by cases h) (fun _ h => by cases h); obtain ⟨w6, hw⟩ := eX ((w5.setCell ⟨br, 0, none⟩ (.bool s_d)).setCell ⟨br, 1, none⟩ (.slice a_d n_d c_d)); have hw2 : st2 w5 (br) (0) (1) s_d a_d n_d c_d = w6 := hw; replace Tr := hZ (Two.put1 (s := s_d) (a := a_d) (n := n_d) (c := c_d) Tr.o); rw [hw2] at Tr; replace K := hZ (qB0.off (g := br) (o1 := 0) (o2 := 1) (s := s_d) (a := a_d) (n' := n_d) (c := c_d) K.o hn9 (fun b hb => by have h1 := HLT0.o b (HL.o.2 b hb); have h2 := Hbr.o; have h3 := Hbd.o; omega)); rw [hw2] at K; replace Fd := hZ (Fd.o.offe hw2 hn9 (by have := Hbd.o; have := HB1.o; first | omega | (have := Hbc.o; omega))); replace Wp := hZ (qCt.off (g := br) (o1 := 0) (o2 := 1) (s' := s_d) (a' := a_d) (n' := n_d) (c' := c_d) Wp.o (fun k hk => by have h1 := (Wp.o.lt k hk).1; have h2 := HB1.o; omega)); rw [hw2] at Wp; replace Oc := hZ (Oc.o.offe hw2 (by have := Hbd.o; have := HB1.o; first | omega | (have := Hbc.o; omega))); replace Vd := hZ (Vd.o.offe hw2 hn9); replace HO := hZ (HO.o.offe hw2 (Or.inr Hbr.o)); clear hw2 hn9; refine lU 3 fun K hK => ?_; go_simp
    try rw [hw]
    refine hK.out _ _ ?_; clear hK K
    try simp only [Act.put, sX1, sX2, sX3]
    clear hw e0 e1 e2 e3; refine dU ?_; clear hHeld; have g0 := Tr.o.cell0; have g1 := Tr.o.cell1
    go_wp2_with fail
    exact bodyPost_ret (v := .tuple #[.slice pa ps.length pc, .agg #[.bool s_d, .slice a_d n_d c_d]]) (by simp [results, Try.results50, go_sem, g0, g1]) rfl ⟨_, _, _, _, _, d, l, M, ps, _, rfl, Vd.o, Wp.o.ints, K.o, HL.o.1, HE.o, fun i hi hp => by have := Hpe.o; have := K.o.len; omega, fun p hp => Nat.lt_of_lt_of_le (HE.o.plt p hp) hj, HO.o⟩
   ·skip
    have s1 : ((ps.length : Int) == (l.length : Int)) = false := by rw [beq_eq_false_iff_ne]; omega
    have s2 : (ps.length == l.length) = false := by rw [beq_eq_false_iff_ne]; omega
    have s3 : ((ps.length : Int) == (l0.length : Int)) = false := by rw [<- hl]; exact s1
    have s4 : (ps.length == l0.length) = false := by rw [<- hl]; exact s2
    have dc := Oc.o.cell; have hbd := Hbd.o
    go_wp2_with fail
    clear hw hb s1 s2 s3 s4 dc hbd; have hLd := qJT w4 B cB n ps.length j l M K.o (by omega) (by omega) hcB2 hpl hlt hn (HE.o.sz HS.o); rw [hl] at hLd; have HLd := hZ hLd; clear hLd; refine HLd.o.mono ?_; rintro e w5 ⟨ho, hP⟩; clear HLd; have hN : ∀ b, b = B -> qAg w4 b := fun b e => e ▸ K.o.noInt; have HBb : Hid (B < w0.heap.size) := HB0; rcases hP with ⟨rfl, hz, hK⟩ | ⟨i, hi, hp, hi', hp', hpi, hci, rfl, hK⟩
    ·skip
     replace K := hZ (hK); replace Tr := hZ (Tr.o.only ho (by intro (e : _ = B); have := HB0.o; have := Hbr.o; have := Hbd.o; have := HB1.o; have := Hbc.o; omega)); replace Fd := hZ (Fd.o.only ho hN (by intro (e : _ = B); have := HB0.o; have := Hbr.o; have := Hbd.o; have := HB1.o; have := Hbc.o; omega)); replace Wp := hZ (Wp.o.only ho (by intro g hg (e : g = B); have := (Wp.o.lt g hg).1; have := HB0.o; have := HB1.o; omega)); replace Oc := hZ (Oc.o.only ho (by intro (e : _ = B); have := HB0.o; have := Hbr.o; have := Hbd.o; have := HB1.o; have := Hbc.o; omega)); replace HO := hZ (HO.o.trans (ho.mono (fun b e => e ▸ .inl rfl))); replace Hsz := hZ (Nat.le_trans Hsz.o ho.size); clear ho hN hK
     go_wp2_with fail
     go_roundw
     case rel => exact ⟨j + 1, l, M, ps, d, by omega, by go_num, hZ (HE.o.skip (fun q h1 h2 => hz q h1 (by have := K.o.len; omega))), K, HL, Tr, Fd, Wp, Hsz, HO⟩
     case measure => simp [intOf]; omega
    ·skip
     replace K := hZ (hK); replace Tr := hZ (Tr.o.only ho (by intro (e : _ = B); have := HB0.o; have := Hbr.o; have := Hbd.o; have := HB1.o; have := Hbc.o; omega)); replace Fd := hZ (Fd.o.only ho hN (by intro (e : _ = B); have := HB0.o; have := Hbr.o; have := Hbd.o; have := HB1.o; have := Hbc.o; omega)); replace Wp := hZ (Wp.o.only ho (by intro g hg (e : g = B); have := (Wp.o.lt g hg).1; have := HB0.o; have := HB1.o; omega)); replace Oc := hZ (Oc.o.only ho (by intro (e : _ = B); have := HB0.o; have := Hbr.o; have := Hbd.o; have := HB1.o; have := Hbc.o; omega)); replace HO := hZ (HO.o.trans (ho.mono (fun b e => e ▸ .inl rfl))); replace Hsz := hZ (Nat.le_trans Hsz.o ho.size); clear ho hN hK; have HE1 := hZ (HE.o.swap ps.length i hp' hi' (Nat.le_refl _) hpi); have HC1 : Hid (ent (qAu M ps.length i hp' hi') ps.length j ≠ 0) := hZ (by rw [qJ3]; exact hci); have hplt : ps.length < l0.length := by omega
     have HL1 : Hid ((qAu l ps.length i hp hi).length = l0.length /\ ∀ b, LnS B (qAu l ps.length i hp hi) b -> LnS B l0 b) := hZ ⟨by rw [qAb]; exact hl, fun b hb => HL.o.2 b hb.swap⟩; clear HE hci HL; generalize qAu M ps.length i hp' hi' = M1 at *; generalize qAu l ps.length i hp hi = l1 at *; clear hi' hp' hp hi hpi i hlm hpl hpe; have HL := HL1; clear HL1; have hl' := HL.o.1; have hlm := K.o.len; have hp1 : ps.length < l1.length := by omega
     have hpM : ps.length < M1.length := by omega
     obtain ⟨x0, x1⟩ := K.o.get ps.length hp1; have hcap := K.o.cap ps.length hp1; obtain ⟨gp, hgp⟩ := eX (l1[ps.length].1); obtain ⟨cp, hcp⟩ := eX (l1[ps.length].2.1); have Hgp := hZ hgp; rw [hgp, hcp] at x0; rw [hcp] at hcap; obtain ⟨hcap1, hcap2⟩ := hcap; clear x1 hcp; have k1 : (0 : Int) <= (ps.length : Int) := by omega
     have k2 : (ps.length : Int) < (l0.length : Int) := by omega
     obtain ⟨w6, hw⟩ := eX (w5.alloc (.cells #[.slice (some ⟨gp, 0, none⟩) n cp] 55)); have hB := aB hw; obtain ⟨bp, hb⟩ := eX w5.heap.size; have Op' : Hid (One w6 bp 55 (.slice (some ⟨gp, 0, none⟩) n cp)) := hZ (by rw [<- hw, <- hb]; exact One.new _ _ _); have Hbp : Hid (bc < bp) := hZ (by rw [<- hb]; exact Oc.o.lt); replace Hsz := hZ (Nat.le_trans Hsz.o hB.size); replace K := K.b hB; replace Tr := Tr.b hB; replace Fd := Fd.b hB; replace Wp := Wp.b hB; replace Oc := Oc.b hB; replace HO := HO.b hB; clear hB; have Op := Op'; clear Op'; obtain ⟨hrow, hrl⟩ := K.o.row ps.length hp1; obtain ⟨s_h, a_h, n_h, c_h, d0h, d1h, h_h⟩ := hrow.get j (by omega); have he : ent M1 ps.length j = (M1[ps.length]'hpM)[j]'(by omega) := qHO hpM (by omega); rw [<- he] at h_h; rw [hgp] at d0h d1h; have Vh := hZ h_h; clear h_h hrow hrl he hgp; have Sh : Hid (Sz 4000 (ent M1 ps.length j)) := hZ (by have hz := HE1.o.sz HS.o; have hl9 := K.o.rowsN _ (List.getElem_mem hpM); rw [qHO hpM (by omega)]; exact hz _ (List.getElem_mem _) _ (List.getElem_mem _)); have dp := Op.o.cell; have dc := Oc.o.cell; obtain ⟨h, hh⟩ := eX (ent M1 ps.length j); have Hh := hZ hh; rw [hh] at Vh Sh HC1; clear hh; have Hlt := hZ Op.o.lt; obtain ⟨w7, hw⟩ := eX ((w6.alloc (.cells #[.bool s_h, .slice a_h n_h c_h] 58))); have hB := aB hw; obtain ⟨bh, hb_bh⟩ := eX w6.heap.size; have h9 := Bx.new (w := w6) Vh.o; rw [hw, hb_bh] at h9; have Fh' := hZ h9; have hge_bh : w6.heap.size <= bh := by omega
     clear h9; replace K := K.b hB; replace Tr := Tr.b hB; replace Fd := Fd.b hB; replace Wp := Wp.b hB; replace Oc := Oc.b hB; replace Op := Op.b hB; replace Vh := Vh.b hB; replace HO := HO.b hB; have Fh := Fh'; clear Fh'; clear hB; have Hbh : Hid (bp < bh) := hZ (by have := Hlt.o; omega); replace Hsz : Hid (B0 <= w7.heap.size) := hZ (by have := Fh.o.lt; have := Hbh.o; have := Hbp.o; have := Hbc.o; omega); clear Hlt hge_bh
     go_wp2_with fail
     clear hb; clear hb_bh d0h d1h dp dc x0 k1 k2; clear Vh; have HTl : Hid ((qCR M1 ps.length j d).length = M1.length) := hZ qBq; have Sd := hZ (HE1.o.dsz HS.o); have D0 := hZ HE1.o.d0; have HP1 := hZ K.o.rowsN
     go_loopw [48] (fun x wr => ∃ i : Nat, i <= l0.length /\ x = .int .i64 i /\ Hid (qB0 wr B l1 n ((qCR M1 ps.length j d).take i ++ M1.drop i)) /\ Hid (Two wr br 58 (.bool false) (.slice none 0 0)) /\ Hid (Bx wr bd d) /\ Hid (qCt wr B0 3 1 (.slice pa ps.length pc) ps.length (ps.map (iv .i64))) /\ Hid (One wr bc 3 (.int .i64 (j : Int))) /\ Hid (One wr bp 55 (.slice (some ⟨gp, 0, none⟩) n cp)) /\ Hid (Bx wr bh h) /\ Hid (B0 <= wr.heap.size) /\ Hid (qAc (LnS B l0) w0 wr)) (fun x _ => l0.length - (intOf x).toNat)
     case atStart => exact ⟨0, by omega, rfl, hZ (by simpa using K.o), Tr, Fd, Wp, Oc, Op, Fh, Hsz, HO⟩
     case round =>
      clear K Tr Fd Wp Oc Op Fh Hsz HO; obtain ⟨i, hi, rfl, K, Tr, Fd, Wp, Oc, Op, Fh, Hsz, HO⟩ := hrel; obtain ⟨w7, rfl⟩ := eY wr; by_cases hil : i < l0.length
      ·skip
       have k1 : (0 : Int) <= (i : Int) := by omega
       have k2 : (i : Int) < (l0.length : Int) := by omega
       have hi1 : i < l1.length := by omega
       have hiM : i < M1.length := by omega
       by_cases hip : i = ps.length
       ·skip
        have s1 : ((i : Int) != (ps.length : Int)) = false := by simp [hip]
        have s2 : (i != ps.length) = false := by simp [hip]
        have s3 : ((i : Int) == (ps.length : Int)) = true := by simp [hip]
        have s4 : (i == ps.length) = true := by simp [hip]
        have Hip := hZ hip; clear hip
        go_wp2_with fail
        go_roundw
        case rel => exact ⟨i + 1, by omega, by go_num, hZ (by have h1 := K.o; rw [qKC HTl.o hiM (by rw [qB3 hiM hpM, if_pos Hip.o])] at h1; exact h1), Tr, Fd, Wp, Oc, Op, Fh, Hsz, HO⟩
        case measure => simp [intOf]; omega
       ·skip
        have s1 : ((i : Int) != (ps.length : Int)) = true := by simp; omega
        have s2 : (i != ps.length) = true := by simp; omega
        have s3 : ((i : Int) == (ps.length : Int)) = false := by rw [beq_eq_false_iff_ne]; omega
        have s4 : (i == ps.length) = false := by rw [beq_eq_false_iff_ne]; omega
        obtain ⟨x0, x1⟩ := K.o.get i hi1; have hcap := K.o.cap i hi1; obtain ⟨gi, hgi⟩ := eX (l1[i].1); obtain ⟨ci, hci⟩ := eX (l1[i].2.1); rw [hgi, hci] at x0; rw [hci] at hcap; obtain ⟨hcap3, hcap4⟩ := hcap; clear x1 hci; have Hgi := hZ hgi; clear hgi
        go_wp2_with fail
        clear x0 s1 s2 s3 s4; have Htd : ((qCR M1 ps.length j d).take i ++ M1.drop i).length = M1.length := qCf HTl.o (by omega); obtain ⟨hri, hrl⟩ := K.o.row i hi1; rw [Hgi.o] at hri; rw [qKi HTl.o (by omega) hiM, if_neg (by omega)] at hri hrl; obtain ⟨hrp, hpl⟩ := K.o.row ps.length hp1; rw [Hgp.o] at hrp; have hpe : ((qCR M1 ps.length j d).take i ++ M1.drop i)[ps.length]'(by omega) = M1[ps.length] := by rw [qKi HTl.o (by omega) hpM]; split; rw [qB3 hpM hpM, if_pos rfl]; rfl
        rw [hpe] at hrp hpl; have hgg : gp ≠ gi := by rw [<- Hgp.o, <- Hgi.o]; exact K.o.nodup _ _ hp1 hi1 (fun e => hip e.symm)
        have hgw : gi < w0.heap.size := HLT0.o gi (HL.o.2 gi (.inr ⟨i, hi1, Hgi.o.symm⟩)); have hblk : bc ≠ gi /\ bh ≠ gi /\ bp ≠ gi /\ bd ≠ gi /\ br ≠ gi := by have := Hbr.o; have := Hbd.o; have := HB1.o; have := Hbc.o; have := Hbp.o; have := Hbh.o; omega
        have hsz := HE1.o.sz HS.o; have hji : j < M1[i].length := by omega
        have hO := qGZ w7 gi gp bc bh bp bd n ci cp j M1[i] M1[ps.length] h ((M1[i])[j]'hji) d hri hrp hrl hpl hn hcap3 hcap4 hcap1 hcap2 hlt rfl Oc.o Fh.o Op.o Fd.o D0.o ⟨hgg, hblk.1, hblk.2.1, hblk.2.2.1, hblk.2.2.2.1⟩ (hsz _ (List.getElem_mem _)) (hsz _ (List.getElem_mem _)) Sh.o Sd.o; have HOp := hZ hO; have HN : Hid (∀ b, b = gi -> qAg w7 b) := hZ (fun b e => e ▸ hri.noInt); have Hblk := hZ hblk; have Hgw := hZ hgw; have Hrl := hZ (And.intro hrl hpl); clear hO hri hrl hrp hpl hpe hgg hgw hblk hsz; refine HOp.o.mono ?_; rintro e w8 ⟨⟨v, rfl⟩, hr, ho⟩; clear HOp; have hK := K.o.turn (i := i) hi1 (qFh (h := h) (f := (M1[i])[j]'(by have := Hrl.o; omega)) (d := d) Hrl.o.1 Hrl.o.2) (by rw [Hgi.o]; exact hr) (by rw [Hgi.o]; exact ho); have hst : qDr h ((M1[i])[j]'hji) d M1[i] M1[ps.length] = (qCR M1 ps.length j d)[i]'(by rw [HTl.o]; exact hiM) := by rw [qB3 hiM hpM, if_neg hip, Hh.o, qAk (by have := Hrl.o; omega)]
        rw [hst, qB2 HTl.o hiM] at hK; have hN := HN.o; clear hst hr; replace K := hZ (hK); replace Tr := hZ (Tr.o.only ho (by intro (e : _ = gi); have := Hblk.o; omega)); replace Fd := hZ (Fd.o.only ho hN (by intro (e : _ = gi); have := Hblk.o; omega)); replace Wp := hZ (Wp.o.only ho (by intro g hg (e : g = gi); have := (Wp.o.lt g hg).1; have := Hgw.o; have := HB1.o; omega)); replace Oc := hZ (Oc.o.only ho (by intro (e : _ = gi); have := Hblk.o; omega)); replace Op := hZ (Op.o.only ho (by intro (e : _ = gi); have := Hblk.o; omega)); replace Fh := hZ (Fh.o.only ho hN (by intro (e : _ = gi); have := Hblk.o; omega)); replace HO := hZ (HO.o.trans (ho.mono (fun b e => e ▸ HL.o.2 gi (.inr ⟨i, hi1, Hgi.o.symm⟩)))); replace Hsz := hZ (Nat.le_trans Hsz.o ho.size); clear ho hN hK HN Hblk Hgw Hrl
        go_wp2_with fail
        go_roundw
        case rel => exact ⟨i + 1, by omega, by go_num, K, Tr, Fd, Wp, Oc, Op, Fh, Hsz, HO⟩
        case measure => simp [intOf]; omega
      ·skip
       replace K : Hid (qB0 w7 B l1 n (qCR M1 ps.length j d)) := hZ (by have h1 := K.o; have h2 := HTl.o; rw [List.take_of_length_le (by omega), List.drop_eq_nil_of_le (by omega), List.append_nil] at h1; exact h1); obtain ⟨s_h, a_h, n_h, c_h, t_h, h_h⟩ := Fh.o; have d0h := t_h.cell0; have d1h := t_h.cell1; have Vh := hZ h_h; clear t_h h_h; obtain ⟨s_9, a_9, n_9, c_9, t_9, -⟩ := Fd.o; have e0 := t_9.cell0; have e1 := t_9.cell1; have e2 := t_9.frozen 0; have e3 := t_9.frozen 1; clear t_9; have hn9 : qAg w7 (bd) := Fd.o.noInt; obtain ⟨w8, hw⟩ := eX ((w7.setCell ⟨bd, 0, none⟩ (.bool s_h)).setCell ⟨bd, 1, none⟩ (.slice a_h n_h c_h)); have hw2 : st2 w7 (bd) (0) (1) s_h a_h n_h c_h = w8 := hw; replace Fd := hZ (Bx.put Fd.o Vh.o); rw [hw2] at Fd; replace K := hZ (qB0.off (g := bd) (o1 := 0) (o2 := 1) (s := s_h) (a := a_h) (n' := n_h) (c := c_h) K.o hn9 (fun b hb => by have h1 := HLT0.o b (HL.o.2 b hb); have h2 := Hbr.o; have h3 := Hbd.o; omega)); rw [hw2] at K; replace Tr := hZ (Tr.o.offe hw2 (by have := Hbd.o; have := HB1.o; have := Hbc.o; have := Hbp.o; have := Hbh.o; omega)); replace Wp := hZ (qCt.off (g := bd) (o1 := 0) (o2 := 1) (s' := s_h) (a' := a_h) (n' := n_h) (c' := c_h) Wp.o (fun k hk => by have h1 := (Wp.o.lt k hk).1; have h2 := HB1.o; omega)); rw [hw2] at Wp; replace Oc := hZ (Oc.o.offe hw2 (by have := Hbd.o; have := HB1.o; have := Hbc.o; have := Hbp.o; have := Hbh.o; omega)); replace Op := hZ (Op.o.offe hw2 (by have := Hbd.o; have := HB1.o; have := Hbc.o; have := Hbp.o; have := Hbh.o; omega)); replace Fh := hZ (Fh.o.offe hw2 hn9 (by have := Hbd.o; have := HB1.o; have := Hbc.o; have := Hbp.o; have := Hbh.o; omega)); replace Vh := hZ (Vh.o.offe hw2 hn9); replace HO := hZ (HO.o.offe hw2 (Or.inr (by have := Hbr.o; have := Hbd.o; omega))); clear hw2 hn9; clear Vh; have dc := Oc.o.cell; replace Hsz : Hid (B0 <= w8.heap.size) := hZ (by have h1 := Oc.o.lt; have h2 := Hbc.o; omega)
       go_wp2_with (at_builtin; refine qGK rfl _ _ 22 rfl B0 3 i0 _ 1 8 Try.underlying22 Hi.o Hz0.o Hz1.o Hz2.o rfl (by decide) (by intro u hu x; simp [Value.cells] at hu; subst hu; intro e; cases e) _ _ _ rfl (Wp.o.blw ((Below.refl _ _).alloc (Nat.le_refl _) _)) ⟨w8.heap.size, 0, none⟩ 1 1 [iv .i64 j] rfl rfl (qFz _ _ _) (by simp [Value.oneCell', iv]) (by intro u hu x; simp [iv] at hu; subst hu; intro e; cases e) (by decide) (by unfold maxLen; omega) (by omega) (by simp; have := Hsz.o; omega) ?_)
       intro v5 w5' hown5 hon; clear hw e0 e1 e2 e3 dc; clear d0h d1h; clear Oc Op Fh; obtain ⟨w9, hw⟩ := eX (w8.alloc (.cells #[iv .i64 j] 3)); have hB := aB hw; replace hon : qAc (fun b => (Value.slice pa ps.length pc).ownBlock = some b) w9 w5' := by rw [<- hw]; exact hon
       clear hw; replace Hsz := hZ (Nat.le_trans Hsz.o (Nat.le_trans hB.size hon.size)); replace K := K.b hB; replace Tr := Tr.b hB; replace Fd := Fd.b hB; replace Wp := Wp.b hB; replace HO := HO.b hB; clear hB; have hN : ∀ b, (Value.slice pa ps.length pc).ownBlock = some b -> qAg w9 b := Wp.o.2; obtain ⟨w10, rfl⟩ := eY w5'; have Hown : Hid (∀ b, (Value.slice pa ps.length pc).ownBlock = some b -> B0 <= b) := hZ (fun b h => (Wp.o.lt b h).1); replace K := hZ (K.o.only hon hN (by intro (e : _ = some _); have := Hown.o _ e; have := HB1.o; have := HB0.o; omega) (fun i hi => by intro (e : _ = some _); have h1 := Hown.o _ e; have h2 := HB1.o; have h3 := HLT0.o _ (HL.o.2 _ (.inr ⟨i, hi, rfl⟩)); omega)); replace Tr := hZ (Tr.o.only hon (by intro (e : _ = some _); have := Hown.o _ e; have := HB1.o; omega)); replace Fd := hZ (Fd.o.only hon hN (by intro (e : _ = some _); have := Hown.o _ e; have := HB1.o; omega)); replace HO := hZ (qJJ HO.o hon (by intro b e; have := Hown.o b e; have := HB1.o; omega))
       go_wp2_with fail
       go_roundw
       case rel => exact ⟨j + 1, l1, qCR M1 ps.length j d, ps ++ [j], h, by omega, by go_num, hZ (by rw [<- Hh.o]; exact HE1.o.step HP1.o hpM (by rw [Hh.o]; exact HC1.o)), K, HL, Tr, Fd, hZ (by rw [List.length_append, List.map_append]; exact hown5), Hsz, HO⟩
       case measure => simp [intOf]; omega
  ·skip
   go_wp2_with fail
   obtain ⟨w4, hwd⟩ := eX w3.drew; have hB := dB hwd; replace K := K.b hB; replace Tr := Tr.b hB; replace Fd := Fd.b hB; replace Wp := Wp.b hB; replace HO := HO.b hB; clear hB; have HBr : Hid (qAc (fun b => False) w4 w4) := hZ (qAc.refl _ _); refine qAx [3] (fun w' => qAc (fun b => False) w4 w') (by kernel_rfl) (by rw [hwd]; exact qAc.refl _ _) (fun hHeld => ?_); rw [hwd] at hHeld ⊢; clear hwd; obtain ⟨s_d, a_d, n_d, c_d, t_d, h_d⟩ := Fd.o; have d0d := t_d.cell0; have d1d := t_d.cell1; have Vd := hZ h_d; clear t_d h_d; refine pU 0 68 ?_; refine tV 1 69 (cF d0d Fd.o.lt) (cF d1d Fd.o.lt) ?_; clear d0d d1d; refine pU 2 2 ?_; have e0 := Tr.o.cell0; have e1 := Tr.o.cell1; have e2 := Tr.o.frozen 0; have e3 := Tr.o.frozen 1; have hn9 : qAg w4 (br) := Tr.o.noInt (fun _ h => by cases h) (fun _ h => by cases h); obtain ⟨w5, hw⟩ := eX ((w4.setCell ⟨br, 0, none⟩ (.bool s_d)).setCell ⟨br, 1, none⟩ (.slice a_d n_d c_d)); have hw2 : st2 w4 (br) (0) (1) s_d a_d n_d c_d = w5 := hw; replace Tr := hZ (Two.put1 (s := s_d) (a := a_d) (n := n_d) (c := c_d) Tr.o); rw [hw2] at Tr; replace K := hZ (qB0.off (g := br) (o1 := 0) (o2 := 1) (s := s_d) (a := a_d) (n' := n_d) (c := c_d) K.o hn9 (fun b hb => by have h1 := HLT0.o b (HL.o.2 b hb); have h2 := Hbr.o; have h3 := Hbd.o; omega)); rw [hw2] at K; replace Fd := hZ (Fd.o.offe hw2 hn9 (by have := Hbd.o; have := HB1.o; first | omega | (have := Hbc.o; omega))); replace Wp := hZ (qCt.off (g := br) (o1 := 0) (o2 := 1) (s' := s_d) (a' := a_d) (n' := n_d) (c' := c_d) Wp.o (fun k hk => by have h1 := (Wp.o.lt k hk).1; have h2 := HB1.o; omega)); rw [hw2] at Wp; replace Vd := hZ (Vd.o.offe hw2 hn9); replace HO := hZ (HO.o.offe hw2 (Or.inr Hbr.o)); clear hw2 hn9; refine lU 3 fun K hK => ?_; go_simp
   try rw [hw]
   refine hK.out _ _ ?_; clear hK K
   try simp only [Act.put, sX1, sX2, sX3]
   clear hw e0 e1 e2 e3; refine dU ?_; clear hHeld; have g0 := Tr.o.cell0; have g1 := Tr.o.cell1
   go_wp2_with fail
   exact bodyPost_ret (v := .tuple #[.slice pa ps.length pc, .agg #[.bool s_d, .slice a_d n_d c_d]]) (by simp [results, Try.results50, go_sem, g0, g1]) rfl ⟨_, _, _, _, _, d, l, M, ps, _, rfl, Vd.o, Wp.o.ints, K.o, HL.o.1, HE.o, (show qA1 M0 M ps d n from (show j = n by omega) ▸ HE.o).rest K.o.rowsN, fun p hp => Nat.lt_of_lt_of_le (HE.o.plt p hp) hj, HO.o⟩
end Go.Proofs.Ytlmbebbdamgfpaa
