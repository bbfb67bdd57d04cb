/- normal: what is computed is the normal form; plain Lean. -/
import Derived.Test.YtlmbebbdamgfpaaQHLOwn
import Derived.Test.YtlmbebbdamgfpaaQHLEl
import Derived.Test.YtlmbebbdamgfpaaQHLLead
import Derived.Test.YtlmbebbdamgfpaaQHLRedP
import Derived.Test.YtlmbebbdamgfpaaQHLElP
set_option linter.unusedVariables false
set_option linter.unusedSimpArgs false
set_option maxHeartbeats 8000000
set_option maxRecDepth 100000
namespace Go.Proofs.Ytlmbebbdamgfpaa
open Go.RowKit
theorem qGN {w : World} {ops : Array Oper} {rest : List Oper} {o : Oper} {a : Act} {Q : Exit -> Act -> World -> Prop} (hgd : o.guard = none) (s x : Operand)
 (ho : o.op = .call { callee := .builtin .append, args := #[s, x], argTypes := #[55, 55] })
 (hs : a.eval s = .slice none 0 0) (p : Option Addr) (c : Nat) (hx : a.eval x = .slice p 0 c)
 (h : wpList Try.prog ops Q rest (a.put o.dst (.slice none 0 0)) w) : wpList Try.prog ops Q (o :: rest) a w := by
 have hE : qIy Try.prog 55 58 2 32 := qIy.mk (z := .agg #[.bool false, .slice none 0 0]) Try.underlying55 (by kernel_rfl) rfl (by decide); obtain ⟨i, hi, hz, hsize, hbyt⟩ := info_parts qLY; refine wpList_plain hgd fun K hK => ?_; have hrun : (Builtin.append_ #[55, 55] o.type #[.slice none 0 0, .slice p 0 c]).run Try.prog w = .ok (.slice none 0 0) w := by
  cases p <;> simp [Builtin.append_, run_underlying hE.1, sizeOf, typeInfo, hi, Builtin.lenOf, Builtin.firstCells, loadCells, loadCellsFrom]
 unfold Oper.wp; simp [execOp, ho, resolve, invoke, builtin, hs, hx, hrun, Result.andThen]; exact hK _ _ h
theorem qKY {cs : List Value} {L : Nat} (h1 : cs.length = L * 2) (h2 : ∀ k, k < L -> cs[k * 2]? = some (.slice none 0 0) /\ ∃ u, cs[k * 2 + 1]? = some (.int .i64 u)) : ∀ u ∈ cs, noU u := by
 intro u hu x e; obtain ⟨q, hq, rfl⟩ := List.mem_iff_getElem.1 hu; obtain ⟨k1, u8, k2⟩ := h2 (q / 2) (by omega); rcases Nat.mod_two_eq_zero_or_one q with e9 | e9
 ·rw [show q / 2 * 2 = q by omega, List.getElem?_eq_getElem hq, e] at k1; cases k1
 ·rw [show q / 2 * 2 + 1 = q by omega, List.getElem?_eq_getElem hq, e] at k2; cases k2
theorem qEW (v : Value) (M : List (List Int)) (w0 : World) (h : qEI w0 v M) (hm : M.length <= 1000) (hn : ∀ r ∈ M, r.length = 0) :
 Calls Try.prog 51 #[v] w0 fun e w' => ∃ B, e = .returned (.slice (some ⟨B, 0, none⟩) M.length M.length) /\ (0 < M.length -> w'.cell? ⟨B, 0, none⟩ = some (.slice none 0 0)) /\ B < w'.heap.size /\ Below w0.heap.size w0 w' := by
 have H := hZ h; obtain ⟨av, cv, rfl, q1, q2⟩ := qAh.form h; have Hn := hZ hn; have HB := hZ (Below.refl w0.heap.size w0); clear h hn
 go_enter Try.func51, Try.ntmps51
 go_wp2_with (at_make; refine qCe rfl rfl (M.length) rfl rfl rfl rfl (by omega) ?_)
 intro w1 h_9 hB hlt9; obtain ⟨B, hb⟩ := eX w0.heap.size; rw [hb] at h_9 ⊢; have Ob' := hZ h_9; have hge_B : Hid (w0.heap.size <= B) := hZ (Nat.le_of_eq hb); have hlt_B : Hid (B < w1.heap.size) := hZ (by rw [<- hb]; exact hlt9); clear h_9 hb hlt9; replace HB := bT HB hB; clear hB; have Ob := Ob'; clear Ob'
 go_wp2_with fail
 have HgR : Hid (w0.heap.size <= B) := hZ hge_B.o; clear hge_B hlt_B
 go_loopw [11] (fun i wr => ∃ (j : Nat) (cs : List Value), j <= M.length /\ i = .int .i64 j /\ Hid (cs.length = M.length * 2 /\ ∀ k, k < M.length -> cs[k * 2]? = some (.slice none 0 0) /\ ∃ u, cs[k * 2 + 1]? = some (.int .i64 u)) /\ Hid (qAE wr B 103 cs) /\ Hid (Below w0.heap.size w0 wr)) (fun i _ => M.length - (intOf i).toNat)
 case atStart => exact ⟨0, _, by omega, rfl, hZ ⟨qFm _, fun k hk => ⟨by rw [qGa _ _ (by omega), Nat.mul_mod_left]; rfl, 0, by rw [qGa _ _ (by omega), show (k * 2 + 1) % 2 = 1 by omega]; rfl⟩⟩, Ob, HB⟩
 case round =>
  clear HB Ob; obtain ⟨j, cs, hj, rfl, HC, Ob, HB⟩ := hrel; obtain ⟨w1, rfl⟩ := eY wr; by_cases hlt : j < M.length
  ·skip
   obtain ⟨b, cap, a, c, hv, hb, n1, HI, g1, g2⟩ := H.o.at_ j hlt; injection hv with f1 f2 f3; subst f1; clear f2 f3; rw [Hn.o _ (List.getElem_mem hlt)] at n1; replace n1 := (HB.o.cell (p := ⟨b, j, none⟩) hb).trans n1; clear HI g1; have i1 : (0 : Int) <= (j : Int) := by omega
   have i2 : (j : Int) < (M.length : Int) := by omega
   obtain ⟨h0c, u9, h1c⟩ := HC.o.2 j hlt; have e0 : w1.cell? ⟨B, j * 2, none⟩ = some (.slice none 0 0) := (Ob.o.cell _).trans h0c; have e1 : w1.cell? ⟨B, j * 2 + 1, none⟩ = some (.int .i64 u9) := (Ob.o.cell _).trans h1c; clear h0c h1c; have HL9 := hZ (qKY HC.o.1 HC.o.2); have e20 := Ob.o.frozen (j * 2); have e21 := Ob.o.frozen (j * 2 + 1); obtain ⟨w2, hw⟩ := eX (((w1.setCell ⟨B, j * 2, none⟩ (.slice none 0 0)).setCell ⟨B, j * 2 + 1, none⟩ (.int .i64 (j : Int)))); have ho : qAc (fun b => b = B) w1 w2 := by rw [<- hw]; exact (((qAc.refl (fun b => b = B) _).set (p := ⟨B, j * 2, none⟩) rfl _).set (p := ⟨B, j * 2 + 1, none⟩) rfl _)
   have hN : ∀ b, b = B -> qAg w1 b := fun b e => e ▸ Ob.o.noInt HL9.o; replace Ob := hZ ((by have h1 := (Ob.o.set (j * 2) (.slice none 0 0)).set (j * 2 + 1) (.int .i64 (j : Int)); rw [hw] at h1; exact h1)); replace HB := hZ (qAj HB.o ho (fun b e => by have := HgR.o; omega) HB.o.size); clear ho hN
   go_wp2_with (at_builtin; refine qGN rfl _ _ rfl rfl _ _ rfl ?_)
   go_roundw
   case rel =>
    refine ⟨j + 1, _, by omega, by go_num, hZ ⟨by rw [List.length_set, List.length_set]; exact HC.o.1, fun k hk => ?_⟩, Ob, HB⟩; obtain ⟨k1, u8, k2⟩ := HC.o.2 k hk; have hl := HC.o.1; by_cases e9 : k = j
    ·subst e9; exact ⟨by rw [List.getElem?_set_ne (by omega), List.getElem?_set_self (by omega)], (k : Int), by rw [List.getElem?_set_self (by rw [List.length_set]; omega)]⟩
    ·exact ⟨by rw [List.getElem?_set_ne (by omega), List.getElem?_set_ne (by omega)]; exact k1, u8, by rw [List.getElem?_set_ne (by omega), List.getElem?_set_ne (by omega)]; exact k2⟩
   case measure => simp [intOf]; omega
  ·skip
   go_wp2_with fail
   go_ret; exact ⟨B, rfl, fun h0 => (Ob.o.cell 0).trans (by have := (HC.o.2 0 h0).1; simpa using this), Ob.o.lt, HB.o⟩
theorem qCN (w0 : World) (B L cB : Nat) (hL : L <= 1000) (h0 : 0 < L -> w0.cell? ⟨B, 0, none⟩ = some (.slice none 0 0)) (hlt : B < w0.heap.size) :
 Calls Try.prog 50 #[.slice (some ⟨B, 0, none⟩) L cB] w0 fun e w' => ∃ s a n c, e = .returned (.tuple #[.slice none 0 0, .agg #[.bool s, .slice a n c]]) /\ qAz w' (.agg #[.bool s, .slice a n c]) 1 /\ Below w0.heap.size w0 w' := by
 have X0 := hZ h0; have Hlt := hZ hlt; have HB := hZ (Below.refl w0.heap.size w0); clear h0 hlt; obtain ⟨w1, hw⟩ := eX (w0.alloc (.cells #[.bool false, .slice none 0 0] 58)); have hB := aB hw; obtain ⟨br, hb⟩ := eX w0.heap.size; have Tr' : Hid (Two w1 br 58 (.bool false) (.slice none 0 0)) := hZ (by rw [<- hw, <- hb]; exact Two.new w0 58 (.bool false) (.slice none 0 0)); have Hbr : Hid (w0.heap.size <= br) := hZ (by omega); replace HB := bT HB hB; clear hB; have Tr := Tr'; clear Tr'
 go_enter Try.func50, Try.ntmps50
 go_wp2_with fail
 clear hw hb; refine (qEt (w := w1) 1 (by omega) (by omega)).mono ?_; rintro e w2 ⟨s_u, a_u, n_u, c_u, rfl, h_u, hB⟩; have Vu := hZ h_u; replace Tr := Tr.b hB; replace HB := bT HB hB; clear hB; clear h_u; have Hlr := hZ Tr.o.lt; obtain ⟨w3, hw⟩ := eX ((w2.alloc (.cells #[.bool s_u, .slice a_u n_u c_u] 58))); have hB := aB hw; obtain ⟨bd, hb_bd⟩ := eX w2.heap.size; have h9 := Bx.new (w := w2) Vu.o; rw [hw, hb_bd] at h9; have Fd' := hZ h9; have hge_bd : w2.heap.size <= bd := by omega
 clear h9; replace Tr := Tr.b hB; replace Vu := Vu.b hB; replace HB := bT HB hB; have Fd := Fd'; clear Fd'; clear hB; have Hbd : Hid (br < bd) := hZ (by have := Hlr.o; omega); clear hge_bd Hlr; by_cases hL0 : L = 0
 ·skip
  subst hL0
  go_wp2_with fail
  clear hw hb_bd; clear Vu; obtain ⟨w4, hwd⟩ := eX w3.drew; have hB := dB hwd; replace Tr := Tr.b hB; replace Fd := Fd.b hB; replace HB := bT HB hB; clear hB; have HBr : Hid (qAc (fun b => False) w4 w4) := hZ (qAc.refl _ _); refine qAx [2] (fun w' => qAc (fun b => False) w4 w') (by kernel_rfl) (by rw [hwd]; exact qAc.refl _ _) (fun hHeld => ?_); rw [hwd] at hHeld ⊢; clear hwd; obtain ⟨s_d, a_d, n_d, c_d, t_d, h_d⟩ := Fd.o; have d0d := t_d.cell0; have d1d := t_d.cell1; have Vd := hZ h_d; clear t_d h_d; refine tV 0 16 (cF d0d Fd.o.lt) (cF d1d Fd.o.lt) ?_; refine pU 1 2 ?_; clear d0d d1d; have e0 := Tr.o.cell0; have e1 := Tr.o.cell1; have e2 := Tr.o.frozen 0; have e3 := Tr.o.frozen 1; have hn9 : qAg w4 (br) := Tr.o.noInt (fun _ h => by cases h) (fun _ h => by cases h); obtain ⟨w5, hw⟩ := eX ((w4.setCell ⟨br, 0, none⟩ (.bool s_d)).setCell ⟨br, 1, none⟩ (.slice a_d n_d c_d)); have hw2 : st2 w4 (br) (0) (1) s_d a_d n_d c_d = w5 := hw; replace Tr := hZ (Two.put1 (s := s_d) (a := a_d) (n := n_d) (c := c_d) Tr.o); rw [hw2] at Tr; replace Fd := hZ (Fd.o.offe hw2 hn9 (by have := Hbd.o; omega)); replace Vd := hZ (Vd.o.offe hw2 hn9); replace HB := hZ (bO hw2 HB.o Hbr.o); clear hw2 hn9; refine lU 2 fun K hK => ?_; go_simp
  try rw [hw]
  refine hK.out _ _ ?_; clear hK K
  try simp only [Act.put, sX1, sX2, sX3]
  clear hw e0 e1 e2 e3; refine dU ?_; clear hHeld; have g0 := Tr.o.cell0; have g1 := Tr.o.cell1
  go_wp2_with fail
  exact bodyPost_ret (v := .tuple #[.slice none 0 0, .agg #[.bool s_d, .slice a_d n_d c_d]]) (by simp [results, Try.results50, go_sem, g0, g1]) rfl ⟨_, _, _, _, rfl, Vd.o, HB.o⟩
 ·skip
  have hl1 : (0 : Int) < (L : Int) := by omega
  have hl2 : ((L : Int) == 0) = false := by rw [beq_eq_false_iff_ne]; omega
  have hl3 : (L == 0) = false := by rw [beq_eq_false_iff_ne]; omega
  have x0 := (HB.o.cell (p := ⟨B, 0, none⟩) Hlt.o).trans (X0.o (by omega))
  go_wp2_with fail
  clear hw hb_bd; clear Vu; clear x0 hl2 hl3
  go_loopw [22, 5] (fun i vp wr => i = .int .i64 0 /\ vp = .slice none 0 0 /\ w3 = wr) (fun _ _ _ => 0)
  case atStart => exact ⟨rfl, rfl, rfl⟩
  case round =>
   obtain ⟨rfl, rfl, rfl⟩ := hrel
   go_wp2_with fail
   obtain ⟨w4, hwd⟩ := eX w3.drew; have hB := dB hwd; replace Tr := Tr.b hB; replace Fd := Fd.b hB; replace HB := bT HB hB; clear hB; have HBr : Hid (qAc (fun b => False) w4 w4) := hZ (qAc.refl _ _); refine qAx [3] (fun w' => qAc (fun b => False) w4 w') (by kernel_rfl) (by rw [hwd]; exact qAc.refl _ _) (fun hHeld => ?_); rw [hwd] at hHeld ⊢; clear hwd; obtain ⟨s_d, a_d, n_d, c_d, t_d, h_d⟩ := Fd.o; have d0d := t_d.cell0; have d1d := t_d.cell1; have Vd := hZ h_d; clear t_d h_d; refine pU 0 68 ?_; refine tV 1 69 (cF d0d Fd.o.lt) (cF d1d Fd.o.lt) ?_; clear d0d d1d; refine pU 2 2 ?_; have e0 := Tr.o.cell0; have e1 := Tr.o.cell1; have e2 := Tr.o.frozen 0; have e3 := Tr.o.frozen 1; have hn9 : qAg w4 (br) := Tr.o.noInt (fun _ h => by cases h) (fun _ h => by cases h); obtain ⟨w5, hw⟩ := eX ((w4.setCell ⟨br, 0, none⟩ (.bool s_d)).setCell ⟨br, 1, none⟩ (.slice a_d n_d c_d)); have hw2 : st2 w4 (br) (0) (1) s_d a_d n_d c_d = w5 := hw; replace Tr := hZ (Two.put1 (s := s_d) (a := a_d) (n := n_d) (c := c_d) Tr.o); rw [hw2] at Tr; replace Fd := hZ (Fd.o.offe hw2 hn9 (by have := Hbd.o; omega)); replace Vd := hZ (Vd.o.offe hw2 hn9); replace HB := hZ (bO hw2 HB.o Hbr.o); clear hw2 hn9; refine lU 3 fun K hK => ?_; go_simp
   try rw [hw]
   refine hK.out _ _ ?_; clear hK K
   try simp only [Act.put, sX1, sX2, sX3]
   clear hw e0 e1 e2 e3; refine dU ?_; clear hHeld; have g0 := Tr.o.cell0; have g1 := Tr.o.cell1
   go_wp2_with fail
   exact bodyPost_ret (v := .tuple #[.slice none 0 0, .agg #[.bool s_d, .slice a_d n_d c_d]]) (by simp [results, Try.results50, go_sem, g0, g1]) rfl ⟨_, _, _, _, rfl, Vd.o, HB.o⟩
open Go.RowKit
theorem qJa {s : List Int} {M : List (List Int)} {K j : Nat} (h : ∀ i (hi : i < M.length), (vec s i * vec M[i] j).natAbs <= K) : ∀ i, i <= M.length -> (qFK s M i j).natAbs <= i * K
 | 0, _ => by simp [qGj]
 | i + 1, hi => by
  rw [qGk s M i j (by omega), Nat.succ_mul]; have h1 := qJa h i (by omega); have h2 := h i (by omega); omega
theorem qKh {k : Nat} {s : List Int} (h : ∀ x ∈ s, Sz k x) (i : Nat) : Sz k (vec s i) := by
 rcases Nat.lt_or_ge i s.length with h1 | h1
 ·rw [qAk h1]; exact h _ (List.getElem_mem _)
 ·rw [qAr h1]; exact Sz.zero _
theorem qKJ (a i : Nat) (hi : i <= 64) : i * 2 ^ a < 2 ^ (a + 7) := by
 have h1 : 0 < 2 ^ a := Nat.pow_pos (by omega); rw [Nat.pow_add]; have h2 : i * 2 ^ a <= 64 * 2 ^ a := Nat.mul_le_mul_right _ hi; generalize 2 ^ a = P at *; omega
theorem qJ1 {k l : Nat} {s : List Int} {M : List (List Int)} {j : Nat} (hs : ∀ x ∈ s, Sz k x) (hM : ∀ r ∈ M, ∀ x ∈ r, Sz l x) (i : Nat) (hi : i <= M.length) (hl : M.length <= 64) : Sz (k + l + 7) (qFK s M i j) := by
 have h1 : ∀ i (hi : i < M.length), (vec s i * vec M[i] j).natAbs <= 2 ^ (k + l) := fun i hi => by
  have := (qKh hs i).mul (qKh (hM _ (List.getElem_mem hi)) j); unfold Sz at this; exact Nat.le_of_lt this
 have h2 := qJa h1 i hi; unfold Sz; exact Nat.lt_of_le_of_lt h2 (qKJ _ i (by omega))
theorem qHc {s : List Int} {M : List (List Int)} {j : Nat} (hs : ∀ x ∈ s, Sz 4001 x) (hM : ∀ r ∈ M, ∀ x ∈ r, Sz 4000 x) (i : Nat) (hi : i <= M.length) (hl : M.length <= 64) : Sz 8010 (qFK s M i j) := (qJ1 hs hM i hi hl).mono (by omega)
theorem qKD {A B : List Int} {j : Nat} {z : Int} (h : A.length = B.length) (hj : j < B.length) (hz : B[j] = z) : (A.take j ++ B.drop j).set j z = A.take j ++ B.drop j := by
 refine List.ext_getElem (by simp) (fun k h1 h2 => ?_); rw [List.getElem_set]
 split
 ·next e => subst e; rw [qIG h hj, hz]
 ·rfl
theorem qIs (vh vd : Value) (hs : List Int) (w0 : World) (B cB n fr : Nat) (l : List Ln) (M : List (List Int)) (d : Int) (hh : WOf w0 vh hs) (hhs : hs.length <= l.length) (h : qB0 w0 B l n M) (hl0 : 0 < l.length) (hl : l.length <= 64) (hcB : l.length <= cB) (hcB2 : cB <= 9223372036854775807) (hd : qAz w0 vd d) (hd0 : d ≠ 0) (hfr : fr <= n) (hn : n <= 1000) (sh : ∀ x ∈ hs, Sz 4001 x) (sM : ∀ r ∈ M, ∀ x ∈ r, Sz 4000 x) (sd : Sz 4000 d) :
 Calls Try.prog 54 #[vh, .slice (some ⟨B, 0, none⟩) l.length cB, vd, .int .i64 fr] w0 fun e w' => ∃ g, e = .returned (.slice (some ⟨g, 0, none⟩) (n - fr : Nat) (n - fr : Nat)) /\ qAF w' g (qHb hs M hs.length d fr (n - fr)) /\ w0.heap.size <= g /\ Below w0.heap.size w0 w' := by
 have HH := hZ hh; obtain ⟨ah, ch, rfl, q1, q2⟩ := qAh.form hh; have K := hZ h; obtain ⟨s_d, a_d, n_d, c_d, rfl⟩ := hd.form4; have Vd := hZ hd; have HB := hZ (Below.refl w0.heap.size w0); have Hlen := hZ h.len; have SH := hZ sh; have SM := hZ sM; have Sd := hZ sd; have hT := qD4 (s := hs) (M := M) (k := hs.length) (d := d) (c := fr) (n := n - fr); have HT := hZ hT; obtain ⟨x0, x1⟩ := h.get 0 hl0; simp only [Nat.zero_mul] at x0 x1; generalize l[0].1 = g0 at *; generalize l[0].2.1 = gc0 at *; have hl1 : (0 : Int) < (l.length : Int) := by omega
 clear h hh hd sh sM sd hT x1; have X0 := hZ x0; clear x0; obtain ⟨w1, hw⟩ := eX ((w0.alloc (.cells #[.bool s_d, .slice a_d n_d c_d] 58))); have hB := aB hw; obtain ⟨bd, hb_bd⟩ := eX w0.heap.size; have h9 := Bx.new (w := w0) Vd.o; rw [hw, hb_bd] at h9; have Fd' := hZ h9; have hge_bd : w0.heap.size <= bd := by omega
 clear h9; replace Vd := Vd.b hB; replace HB := bT HB hB; have Fd := Fd'; clear Fd'; clear hB; have Hbd : Hid (w0.heap.size <= bd) := hZ hge_bd; clear hge_bd; have x0 := (HB.o.cell (p := ⟨B, 0, none⟩) K.o.lt).trans X0.o
 go_enter Try.func54, Try.ntmps54
 go_wp2_with (at_make; refine qAY rfl rfl (n - fr) rfl rfl (by omega) (by omega) (by omega) ?_)
 intro w2 h_9 hB hlt9; obtain ⟨g, hb⟩ := eX w1.heap.size; rw [hb] at h_9 ⊢; have Rr' := hZ h_9; have hge_g : Hid (w1.heap.size <= g) := hZ (Nat.le_of_eq hb); have hlt_g : Hid (g < w2.heap.size) := hZ (by rw [<- hb]; exact hlt9); have HGG : w0.heap.size <= g /\ bd < g := ⟨Nat.le_trans HB.o.size hge_g.o, by rw [<- hb]; exact Fd.o.lt⟩; clear h_9 hb hlt9; replace Vd := Vd.b hB; replace Fd := Fd.b hB; replace HB := bT HB hB; clear hB; have Rr := Rr'; clear Rr'
 skip
 clear Vd
 go_wp2_with fail
 have Hg : Hid (w0.heap.size <= g /\ bd < g) := hZ HGG; clear hge_g hlt_g HGG X0
 try clear x0
 obtain ⟨N, hN⟩ := eX (n - fr); have Hnn := hZ hN; have hN1 : N <= 1000 := by omega
 rw [hN] at Rr HT ⊢; clear hN
 go_loopw [24] (fun i wr => ∃ j : Nat, j <= N /\ i = .int .i64 j /\ Hid (qAF wr g ((qHb hs M hs.length d fr N).take j ++ (List.replicate N 0).drop j)) /\ Hid (Bx wr bd d) /\ Hid (Below w0.heap.size w0 wr)) (fun i _ => N - (intOf i).toNat)
 case atStart => exact ⟨0, by omega, rfl, hZ (by simpa using Rr.o), Fd, HB⟩
 case round =>
  clear Rr Fd HB; obtain ⟨j, hj, rfl, Rr, Fd, HB⟩ := hrel; obtain ⟨w2, rfl⟩ := eY wr; by_cases hlt : j < N
  ·skip
   have i1 : (0 : Int) <= (j : Int) := by omega
   have i2 : (j : Int) < (N : Int) := by omega
   have HTl : Hid ((qHb hs M hs.length d fr N).length = (List.replicate N (0 : Int)).length) := hZ (by have := HT.o; simpa using this); obtain ⟨base, hbase⟩ := eX ((qHb hs M hs.length d fr N).take j ++ (List.replicate N 0).drop j); rw [hbase] at Rr; have Hbl : Hid (j < base.length) := hZ (by rw [<- hbase, qCf HTl.o (by simp; omega)]; simpa using hlt); have HBS : Hid (base.set j ((qHb hs M hs.length d fr N)[j]'(by have := HT.o; omega)) = (qHb hs M hs.length d fr N).take (j + 1) ++ (List.replicate N 0).drop (j + 1)) := hZ (by rw [<- hbase]; exact qB2 HTl.o (by simpa using hlt)); have HB0 : Hid (base.set j 0 = base) := hZ (by rw [<- hbase]; exact qKD HTl.o (by simpa using hlt) (by simp)); have HE0 : Hid (qFK hs M 0 (fr + j) = 0) := hZ (qGj _ _ _); clear hbase
   go_wp2_with fail
   go_loopw [29] (fun i wr => ∃ q : Nat, q <= hs.length /\ i = .int .i64 q /\ Hid (qAF wr g (base.set j (qFK hs M q (fr + j)))) /\ Hid (Bx wr bd d) /\ Hid (Below w0.heap.size w0 wr)) (fun i _ => hs.length - (intOf i).toNat)
   case atStart => exact ⟨0, by omega, rfl, hZ (by rw [HE0.o, HB0.o]; exact Rr.o), Fd, HB⟩
   case round =>
    clear Rr Fd HB; obtain ⟨q, hq, rfl, Rr, Fd, HB⟩ := hrel; obtain ⟨w2, rfl⟩ := eY wr; by_cases hql : q < hs.length
    ·skip
     have i3 : (0 : Int) <= (q : Int) := by omega
     have i4 : (q : Int) < (hs.length : Int) := by omega
     have i5 : (q : Int) < (l.length : Int) := by omega
     have hqM : q < M.length := by have := Hlen.o; omega
     have hql2 : q < l.length := by omega
     obtain ⟨b9, c9, s_h, a_h, n_h, c_h, hv9, hb9, d0h, d1h, h_h⟩ := (HH.o.blw HB.o).at_ q hql; injection hv9 with f1 f2 f3; subst f1; clear f2 f3; obtain ⟨hv, hhv⟩ := eX (hs[q]); rw [hhv] at h_h; have Vh := hZ h_h; have Sh : Hid (Sz 4001 hv) := hZ (hhv ▸ SH.o _ (List.getElem_mem _)); have Hhv := hZ hhv; clear h_h hhv hb9; have hgl := Rr.o.lt; obtain ⟨w3, hw⟩ := eX ((w2.alloc (.cells #[.bool s_h, .slice a_h n_h c_h] 58))); have hB := aB hw; obtain ⟨bh, hb_bh⟩ := eX w2.heap.size; have h9 := Bx.new (w := w2) Vh.o; rw [hw, hb_bh] at h9; have Fh' := hZ h9; have hge_bh : w2.heap.size <= bh := by omega
     clear h9; replace Rr := Rr.b hB; replace Fd := Fd.b hB; replace Vh := Vh.b hB; replace HB := bT HB hB; have Fh := Fh'; clear Fh'; clear hB; have hgb : g < bh := by omega
     clear hgl; have hgl := Rr.o.lt; obtain ⟨y0, y1⟩ := (K.o.blw HB.o).get q hql2; obtain ⟨hrow, hrl⟩ := (K.o.blw HB.o).row q hql2; have hjn : fr + j < M[q].length := by have := Hnn.o; omega
     obtain ⟨s_e, a_e, n_e, c_e, d0e, d1e, h_e⟩ := hrow.get (fr + j) hjn; have hltg := hrow.lt; obtain ⟨ev, hev⟩ := eX (M[q][fr + j]); rw [hev] at h_e; have Ve := hZ h_e; have Se : Hid (Sz 4000 ev) := hZ (hev ▸ SM.o _ (List.getElem_mem _) _ (List.getElem_mem _)); have Hev := hZ hev; obtain ⟨ge, hge⟩ := eX (l[q].1); obtain ⟨ce, hce⟩ := eX (l[q].2.1); rw [hge, hce] at y0; rw [hge] at d0e d1e; clear y1 h_e hev hge hce hrow hrl hltg; have i6 : (0 : Int) <= (fr : Int) + (j : Int) := by omega
     have i7 : (fr : Int) + (j : Int) < (n : Int) := by have := Hnn.o; omega
     have Hext : Hid (qFK hs M (q + 1) (fr + j) = qFK hs M q (fr + j) + hv * ev) := hZ (by rw [qGk _ _ _ _ hqM, qAk hql, qAk hjn, Hhv.o, Hev.o]); have SE : Hid (Sz 8010 (qFK hs M q (fr + j))) := hZ (qHc SH.o SM.o q (by omega) (by have := Hlen.o; omega)); have hw1 := hw; clear hw; obtain ⟨w4, hw⟩ := eX ((w3.alloc (.cells #[.bool s_e, .slice a_e n_e c_e] 58))); have hB := aB hw; obtain ⟨be, hb_be⟩ := eX w3.heap.size; have h9 := Bx.new (w := w3) Ve.o; rw [hw, hb_be] at h9; have Fe' := hZ h9; have hge_be : w3.heap.size <= be := by omega
     clear h9; replace Rr := Rr.b hB; replace Fd := Fd.b hB; replace Vh := Vh.b hB; replace Fh := Fh.b hB; replace Ve := Ve.b hB; replace HB := bT HB hB; have Fe := Fe'; clear Fe'; clear hB; have Hne : Hid (g < bh /\ g < be) := hZ ⟨hgb, by omega⟩; clear hgb hgl
     skip
     skip
     obtain ⟨s_p, a_p, n_p, c_p, t_p, h_p⟩ := Fh.o; have d0p := t_p.cell0; have d1p := t_p.cell1; have Vp := hZ h_p; clear t_p h_p
     go_wp2_with fail
     clear hw hw1 hb_bh hb_be; clear d0h d1h d0e d1e y0; obtain ⟨E, hE⟩ := eX (qFK hs M q (fr + j)); rw [hE] at Rr Hext SE; clear hE; by_cases hh0 : hv = 0
     ·skip
      refine (qAD (w := w4) Vp.o Sh.o (by omega)).mono ?_; rintro e w5 ⟨he, hB⟩; rw [show qAK hv 0 = 0 by rw [hh0]; exact qAS 0] at he; subst he; replace Rr := Rr.b hB; replace Fd := Fd.b hB; replace Vh := Vh.b hB; replace Fh := Fh.b hB; replace Ve := Ve.b hB; replace Fe := Fe.b hB; replace Vp := Vp.b hB; replace HB := bT HB hB; clear hB
      go_wp2_with fail
      go_roundw
      case rel => exact ⟨q + 1, by omega, by go_num, hZ (by rw [Hext.o, show E + hv * ev = E by rw [hh0]; simp]; exact Rr.o), Fd, HB⟩
      case measure => simp [intOf]; omega
     ·skip
      refine (qAD (w := w4) Vp.o Sh.o (by omega)).mono ?_; rintro e w5 ⟨he, hB⟩; obtain ⟨sgp, hs9, q0p, q1p⟩ := qA0 (x := hv) hh0; rw [hs9] at he; subst he; clear hs9; replace Rr := Rr.b hB; replace Fd := Fd.b hB; replace Vh := Vh.b hB; replace Fh := Fh.b hB; replace Ve := Ve.b hB; replace Fe := Fe.b hB; replace Vp := Vp.b hB; replace HB := bT HB hB; clear hB; obtain ⟨s_o, a_o, n_o, c_o, t_o, h_o⟩ := Fe.o; have d0o := t_o.cell0; have d1o := t_o.cell1; have Vo := hZ h_o; clear t_o h_o
      go_wp2_with fail
      clear d0p d1p; clear q0p q1p; by_cases he0 : ev = 0
      ·skip
       refine (qAD (w := w5) Vo.o Se.o (by omega)).mono ?_; rintro e w6 ⟨he, hB⟩; rw [show qAK ev 0 = 0 by rw [he0]; exact qAS 0] at he; subst he; replace Rr := Rr.b hB; replace Fd := Fd.b hB; replace Vh := Vh.b hB; replace Fh := Fh.b hB; replace Ve := Ve.b hB; replace Fe := Fe.b hB; replace Vp := Vp.b hB; replace Vo := Vo.b hB; replace HB := bT HB hB; clear hB
       go_wp2_with fail
       go_roundw
       case rel => exact ⟨q + 1, by omega, by go_num, hZ (by rw [Hext.o, show E + hv * ev = E by rw [he0]; simp]; exact Rr.o), Fd, HB⟩
       case measure => simp [intOf]; omega
      ·skip
       refine (qAD (w := w5) Vo.o Se.o (by omega)).mono ?_; rintro e w6 ⟨he, hB⟩; obtain ⟨sgo, hs9, q0o, q1o⟩ := qA0 (x := ev) he0; rw [hs9] at he; subst he; clear hs9; replace Rr := Rr.b hB; replace Fd := Fd.b hB; replace Vh := Vh.b hB; replace Fh := Fh.b hB; replace Ve := Ve.b hB; replace Fe := Fe.b hB; replace Vp := Vp.b hB; replace Vo := Vo.b hB; replace HB := bT HB hB; clear hB
       go_wp2_with fail
       clear d0o d1o; clear q0o q1o; clear Vh Ve Vp Vo; have Hjs : Hid (j < (base.set j E).length) := hZ (by rw [List.length_set]; exact Hbl.o); obtain ⟨w7, hwd⟩ := eX w6.drew; have hB := dB hwd; replace Rr := Rr.b hB; replace Fd := Fd.b hB; replace Fh := Fh.b hB; replace Fe := Fe.b hB; replace HB := bT HB hB; clear hB; have HBr : Hid (qAc (fun b => False) w7 w7) := hZ (qAc.refl _ _); refine qAx [11] (fun w' => qAc (fun b => False) w7 w') (by kernel_rfl) (by rw [hwd]; exact qAc.refl _ _) (fun hHeld => ?_); rw [hwd] at hHeld ⊢; clear hwd; obtain ⟨s_r, a_r, n_r, c_r, d0r, d1r, h_r⟩ := Rr.o.get j Hjs.o; rw [List.getElem_set_self] at h_r; have Vr := hZ h_r; clear h_r; obtain ⟨s_h, a_h, n_h, c_h, t_h, h_h⟩ := Fh.o; have d0h := t_h.cell0; have d1h := t_h.cell1; have Vh := hZ h_h; clear t_h h_h; obtain ⟨s_e, a_e, n_e, c_e, t_e, h_e⟩ := Fe.o; have d0e := t_e.cell0; have d1e := t_e.cell1; have Ve := hZ h_e; clear t_e h_e; refine pU 0 52 ?_; refine pU 1 53 ?_; refine pU 2 54 ?_; refine pU 3 55 ?_; refine pU 4 56 ?_; refine tV 5 57 (cF d0r Rr.o.lt) (cF d1r Rr.o.lt) ?_; refine tV 6 58 (cF d0h Fh.o.lt) (cF d1h Fh.o.lt) ?_; refine tV 7 59 (cF d0e Fe.o.lt) (cF d1e Fe.o.lt) ?_; clear d0h d1h d0e d1e; clear d0r d1r; refine eU 8 fun K hK => ?_; go_simp; refine (qBp (w := w7) Vh.o Ve.o Sh.o Se.o (by omega)).mono ?_; rintro e w8 ⟨s_t, a_t, n_t, c_t, rfl, h_t, hB⟩; have Vt := hZ h_t; replace HBr := oT HBr hB; replace Rr := Rr.b hB; replace Fd := Fd.b hB; replace Fh := Fh.b hB; replace Fe := Fe.b hB; replace Vr := Vr.b hB; replace Vh := Vh.b hB; replace Ve := Ve.b hB; replace HB := bT HB hB; clear hB; clear h_t; refine hK.out _ _ HBr.o (fun hHeld => ?_); clear hK K
       try simp only [Act.put, sX1, sX2, sX3]
       refine eU 9 fun K hK => ?_; go_simp; refine (qIT (w := w8) (k := 8010) Vr.o Vt.o SE.o ((Sh.o.mul Se.o).mono (by omega)) (by omega)).mono ?_; rintro e w9 ⟨s_u, a_u, n_u, c_u, rfl, h_u, hB⟩; have Vu := hZ h_u; replace HBr := oT HBr hB; replace Rr := Rr.b hB; replace Fd := Fd.b hB; replace Fh := Fh.b hB; replace Fe := Fe.b hB; replace Vr := Vr.b hB; replace Vh := Vh.b hB; replace Ve := Ve.b hB; replace Vt := Vt.b hB; replace HB := bT HB hB; clear hB; clear h_u; refine hK.out _ _ HBr.o (fun hHeld => ?_); clear hK K
       try simp only [Act.put, sX1, sX2, sX3]
       refine pU 10 62 ?_; obtain ⟨s_9, a_9, n_9, c_9, e0, e1, -⟩ := Rr.o.get (j) Hjs.o; have e2 := Rr.o.frozen (j * 2); have e3 := Rr.o.frozen (j * 2 + 1); have hn9 : qAg w9 (g) := Rr.o.noInt; obtain ⟨w10, hw⟩ := eX ((w9.setCell ⟨g, j * 2, none⟩ (.bool s_u)).setCell ⟨g, j * 2 + 1, none⟩ (.slice a_u n_u c_u)); have hw2 : st2 w9 (g) (j * 2) (j * 2 + 1) s_u a_u n_u c_u = w10 := hw; replace Rr := hZ (qAF.put' Rr.o (j) Hjs.o Vu.o); rw [hw2] at Rr; replace Fd := hZ (Fd.o.offe hw2 hn9 (by have := Hg.o; have := Hne.o; omega)); replace Fh := hZ (Fh.o.offe hw2 hn9 (by have := Hg.o; have := Hne.o; omega)); replace Fe := hZ (Fe.o.offe hw2 hn9 (by have := Hg.o; have := Hne.o; omega)); replace Vr := hZ (Vr.o.offe hw2 hn9); replace Vh := hZ (Vh.o.offe hw2 hn9); replace Ve := hZ (Ve.o.offe hw2 hn9); replace Vt := hZ (Vt.o.offe hw2 hn9); replace Vu := hZ (Vu.o.offe hw2 hn9); replace HB := hZ (bO hw2 HB.o Hg.o.1); clear hw2 hn9; refine lU 11 fun K hK => ?_; go_simp
       try rw [hw]
       refine hK.out _ _ ?_; clear hK K
       try simp only [Act.put, sX1, sX2, sX3]
       clear hw e0 e1 e2 e3; refine dU ?_; clear hHeld; replace Rr : Hid (qAF w10 g (base.set j (E + hv * ev))) := hZ (by have h1 := Rr.o; rw [List.set_set] at h1; exact h1)
       go_wp2_with fail
       go_roundw
       case rel => exact ⟨q + 1, by omega, by go_num, hZ (by rw [Hext.o]; exact Rr.o), Fd, HB⟩
       case measure => simp [intOf]; omega
    ·skip
     obtain rfl : q = hs.length := by omega
     have SE : Hid (Sz 8010 (qFK hs M hs.length (fr + j))) := hZ (qHc SH.o SM.o _ (by have := Hlen.o; omega) (by have := Hlen.o; omega)); have HTj : Hid ((qHb hs M hs.length d fr N)[j]'(by have := HT.o; omega) = qFK hs M hs.length (fr + j) / d) := hZ (by simp [qHb]); generalize qFK hs M hs.length (fr + j) = E at *; have Hjs : Hid (j < (base.set j E).length) := hZ (by rw [List.length_set]; exact Hbl.o); obtain ⟨s_r, a_r, n_r, c_r, d0r, d1r, h_r⟩ := Rr.o.get j Hjs.o; rw [List.getElem_set_self] at h_r; have Vr := hZ h_r; clear h_r
     go_wp2_with fail
     clear d0r d1r; by_cases hE0 : E = 0
     ·skip
      refine (qAD (w := w2) Vr.o SE.o (by omega)).mono ?_; rintro e w3 ⟨he, hB⟩; rw [show qAK E 0 = 0 by rw [hE0]; exact qAS 0] at he; subst he; replace Rr := Rr.b hB; replace Fd := Fd.b hB; replace Vr := Vr.b hB; replace HB := bT HB hB; clear hB
      go_wp2_with fail
      go_roundw
      case rel => exact ⟨j + 1, by omega, by go_num, hZ (by rw [<- HBS.o, HTj.o, hE0, Int.zero_ediv]; have h1 := Rr.o; rw [hE0] at h1; exact h1), Fd, HB⟩
      case measure => simp [intOf]; omega
     ·skip
      refine (qAD (w := w2) Vr.o SE.o (by omega)).mono ?_; rintro e w3 ⟨he, hB⟩; obtain ⟨sgr, hs9, q0r, q1r⟩ := qA0 (x := E) hE0; rw [hs9] at he; subst he; clear hs9; replace Rr := Rr.b hB; replace Fd := Fd.b hB; replace Vr := Vr.b hB; replace HB := bT HB hB; clear hB
      go_wp2_with fail
      clear q0r q1r; clear Vr; obtain ⟨w4, hwd⟩ := eX w3.drew; have hB := dB hwd; replace Rr := Rr.b hB; replace Fd := Fd.b hB; replace HB := bT HB hB; clear hB; have HBr : Hid (qAc (fun b => False) w4 w4) := hZ (qAc.refl _ _); refine qAx [9] (fun w' => qAc (fun b => False) w4 w') (by kernel_rfl) (by rw [hwd]; exact qAc.refl _ _) (fun hHeld => ?_); rw [hwd] at hHeld ⊢; clear hwd; obtain ⟨s_r, a_r, n_r, c_r, d0r, d1r, h_r⟩ := Rr.o.get j Hjs.o; rw [List.getElem_set_self] at h_r; have Vr := hZ h_r; clear h_r; obtain ⟨s_d, a_d, n_d, c_d, t_d, h_d⟩ := Fd.o; have d0d := t_d.cell0; have d1d := t_d.cell1; have Vd := hZ h_d; clear t_d h_d; refine pU 0 70 ?_; refine pU 1 71 ?_; refine pU 2 72 ?_; refine pU 3 73 ?_; refine pU 4 74 ?_; refine tV 5 75 (cF d0r Rr.o.lt) (cF d1r Rr.o.lt) ?_; refine tV 6 76 (cF d0d Fd.o.lt) (cF d1d Fd.o.lt) ?_; clear d0d d1d; clear d0r d1r; refine eU 7 fun K hK => ?_; go_simp; refine (qDQ (w := w4) Vr.o Vd.o SE.o Sd.o hd0 (by omega) (by omega)).mono ?_; rintro e w5 ⟨s_u, a_u, n_u, c_u, rfl, h_u, hB⟩; have Vu := hZ h_u; replace HBr := oT HBr hB; replace Rr := Rr.b hB; replace Fd := Fd.b hB; replace Vr := Vr.b hB; replace Vd := Vd.b hB; replace HB := bT HB hB; clear hB; clear h_u; refine hK.out _ _ HBr.o (fun hHeld => ?_); clear hK K
      try simp only [Act.put, sX1, sX2, sX3]
      refine pU 8 78 ?_; obtain ⟨s_9, a_9, n_9, c_9, e0, e1, -⟩ := Rr.o.get (j) Hjs.o; have e2 := Rr.o.frozen (j * 2); have e3 := Rr.o.frozen (j * 2 + 1); have hn9 : qAg w5 (g) := Rr.o.noInt; obtain ⟨w6, hw⟩ := eX ((w5.setCell ⟨g, j * 2, none⟩ (.bool s_u)).setCell ⟨g, j * 2 + 1, none⟩ (.slice a_u n_u c_u)); have hw2 : st2 w5 (g) (j * 2) (j * 2 + 1) s_u a_u n_u c_u = w6 := hw; replace Rr := hZ (qAF.put' Rr.o (j) Hjs.o Vu.o); rw [hw2] at Rr; replace Fd := hZ (Fd.o.offe hw2 hn9 (by have := Hg.o; omega)); replace Vr := hZ (Vr.o.offe hw2 hn9); replace Vd := hZ (Vd.o.offe hw2 hn9); replace Vu := hZ (Vu.o.offe hw2 hn9); replace HB := hZ (bO hw2 HB.o Hg.o.1); clear hw2 hn9; refine lU 9 fun K hK => ?_; go_simp
      try rw [hw]
      refine hK.out _ _ ?_; clear hK K
      try simp only [Act.put, sX1, sX2, sX3]
      clear hw e0 e1 e2 e3; refine dU ?_; clear hHeld
      go_wp2_with fail
      go_roundw
      case rel => exact ⟨j + 1, by omega, by go_num, hZ (by rw [<- HBS.o, HTj.o]; have h1 := Rr.o; rw [List.set_set] at h1; exact h1), Fd, HB⟩
      case measure => simp [intOf]; omega
  ·skip
   obtain rfl : j = N := by omega
   replace Rr : Hid (qAF w2 g (qHb hs M hs.length d fr j)) := hZ (by have h1 := Rr.o; have h2 := HT.o; rw [List.take_of_length_le (by omega), List.drop_eq_nil_of_le (by simp), List.append_nil] at h1; exact h1)
   go_wp2_with fail
   go_ret; rw [Hnn.o]; exact ⟨g, rfl, Rr.o, Hg.o.1, HB.o⟩
def qEk (sq M : List (List Int)) (k : Nat) (d : Int) (f fr n : Nat) : List (List Int) := (sq.drop f).map (fun s => qHb s M k d fr (n - fr))
theorem qH5.mem {m : Int} {n : Nat} {Sq R R' : List Vec} (h : qH5 m n Sq R) (hm : ∀ r, r ∈ R ↔ r ∈ R') : qH5 m n Sq R' :=
 ⟨h.tri, fun r hr => (h.into r hr).trans (fun s hs => qAa.mem (by
  rcases List.mem_append.1 hs with h1 | h1
  ·exact List.mem_append.2 (.inl h1)
  ·exact List.mem_append.2 (.inr ((hm s).1 h1)))), fun r hr => h.onto r ((hm r).2 hr)⟩
theorem qHa (u : Vec) (j : Nat) (M : List (List Int)) (hj : ∀ r ∈ M, r.length <= j) : qA8 u (M.map vec) 0 j = 0 :=
 qBg _ _ _ _ (fun t ht => by
  rw [List.getElem_map, qAr (hj _ (List.getElem_mem _)), Int.mul_zero])
theorem qA1.norm {M0 M sq sq' : List (List Int)} {ps : List Nat} {d m : Int} {col n f fr : Nat} (h : qA1 M0 M ps d col) (hz : ∀ i, ∀ h : i < M.length, ps.length <= i -> ∀ j, vec M[i] j = 0) (hn : ∀ r ∈ M, r.length = n) (hm : m = if d < 0 then -d else d)
 (hq : qH5 m ps.length (sq.map vec) (M0.map (fun r => res ps (vec r)))) (hr : qIA m ps.length 0 (sq.map vec) (sq'.map vec)) (hf : f < ps.length) (h1 : ∀ i (h : i < ps.length), i < f -> ps[i] < fr) (h2 : fr <= ps[f]) (hfr : fr <= n) :
 qAw (M0.map vec) fr ((qEk sq' M ps.length d f fr n).map vec) := by
 obtain ⟨A, a1, a2, a3, -⟩ := h; have hmA : ∀ r, r ∈ A.map vec ↔ r ∈ M0.map vec := fun r => by
  simp only [List.mem_map]; exact ⟨fun ⟨x, hx, e⟩ => ⟨x, (a2 x).1 hx, e⟩, fun ⟨x, hx, e⟩ => ⟨x, (a2 x).2 hx, e⟩⟩
 have hmR : ∀ r, r ∈ M0.map (fun r => res ps (vec r)) ↔ r ∈ (A.map vec).map (res ps) := fun r => by
  simp only [List.mem_map, List.map_map]; exact ⟨fun ⟨x, hx, e⟩ => ⟨x, (a2 x).2 hx, e⟩, fun ⟨x, hx, e⟩ => ⟨x, (a2 x).1 hx, e⟩⟩
 have h0 : ∀ i (h : i < (M.map vec).length), ps.length <= i -> ∀ j, (M.map vec)[i] j = 0 := fun i hi hp j => by
  rw [List.getElem_map]; exact hz i (by simpa using hi) hp j
 have hu : ∀ k, k < ps.length -> qAa ((A.map vec).map (res ps)) (qBT m k) := fun k hk => by
  have := qJA (a3.unit (fun i hi => a3.minor _ (List.getElem_mem _)) (fun i hi t ht hip => by
   rw [a3.diag i t hi hip ht]; by_cases e : i = t
   ·rw [if_pos e, if_pos e.symm]
   ·rw [if_neg e, if_neg (Ne.symm e)]) k hk)
  rwa [<- hm] at this
 have hT : Tri ps.length (sq'.map vec) ((A.map vec).map (res ps)) := (hq.mem hmR).tri_ hr hu; have hV : qLB (sq'.map (fun s => fun j => qA8 (vec s) ((M.map vec).take ps.length) 0 j / d)) (sq'.map vec) (M.map vec) ps.length d :=
  ⟨by simp, fun i hi hi' j => by simp⟩
 have := (a3.norm_some h0 hT hV hf h1 h2).mem hmA; have e : ((sq'.map (fun s => fun j => qA8 (vec s) ((M.map vec).take ps.length) 0 j / d)).drop f).map (sh fr) = (qEk sq' M ps.length d f fr n).map vec := by
  unfold qEk; rw [<- List.map_drop, List.map_map, List.map_map]; refine List.map_congr_left (fun s _ => funext (fun j => ?_))
  show qA8 (vec s) ((M.map vec).take ps.length) 0 (fr + j) / d = vec (qHb s M ps.length d fr (n - fr)) j
  rcases Nat.lt_or_ge j (n - fr) with hj | hj
  ·rw [qAk (by rw [qD4]; exact hj)]
   simp [qHb, qFK, List.map_take]
  ·rw [qAr (by rw [qD4]; exact hj), <- List.map_take, qHa _ _ _ (fun r hr => by rw [hn r (List.mem_of_mem_take hr)]; omega)]
   simp
 rwa [e] at this
theorem qA1.norm0 {M0 M : List (List Int)} {ps : List Nat} {d : Int} {col fr : Nat} (h : qA1 M0 M ps d col) (hz : ∀ i, ∀ h : i < M.length, ps.length <= i -> ∀ j, vec M[i] j = 0) (h1 : ∀ p ∈ ps, p < fr) : qAw (M0.map vec) fr [] := by
 obtain ⟨A, a1, a2, a3, -⟩ := h; refine (a3.norm_none (fun i hi hp j => ?_) h1).mem (fun r => ?_)
 ·rw [List.getElem_map]
  exact hz i (by simpa using hi) hp j
 ·simp only [List.mem_map]
  exact ⟨fun ⟨x, hx, e⟩ => ⟨x, (a2 x).1 hx, e⟩, fun ⟨x, hx, e⟩ => ⟨x, (a2 x).2 hx, e⟩⟩
theorem qA1.rank {M0 M : List (List Int)} {ps : List Nat} {d : Int} {col : Nat} (h : qA1 M0 M ps d col) (hz : ∀ i, ∀ h : i < M.length, ps.length <= i -> ∀ j, vec M[i] j = 0) : Ind (M0.map vec) ↔ ps.length = M.length := by
 obtain ⟨A, a1, a2, a3, a4⟩ := h; rw [a4]; have := a3.ind (fun i hi hp j => by
  rw [List.getElem_map]; exact hz i (by simpa using hi) hp j)
 rwa [List.length_map] at this
theorem qCg {M0 : List (List Int)} (h : ∀ r ∈ M0, r.length = 0) (fr : Nat) : qAw (M0.map vec) fr [] := by
 refine ⟨trivial, fun v => ⟨fun hv => ⟨fun _ => 0, qAa.zero, fun _ _ => rfl, fun j => qB4 hv j⟩, fun ⟨u, h1, h2, h3⟩ => qAa.zero.congr (fun j => ?_)⟩⟩; obtain ⟨x, hx⟩ := qC9.1 h1; rw [h3, hx, qHa _ _ _ (fun r hr => by rw [h r hr]; omega)]
end Go.Proofs.Ytlmbebbdamgfpaa
