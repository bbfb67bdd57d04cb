/- lattice.normal. -/
import Derived.Test.YtlmbebbdamgfpaaQULExt
import Derived.Test.YtlmbebbdamgfpaaQULEl
import Derived.Test.YtlmbebbdamgfpaaQULInd
import Derived.Test.YtlmbebbdamgfpaaQULRedP
import Derived.Test.YtlmbebbdamgfpaaQULTriA
set_option linter.unusedVariables false
set_option linter.unusedSimpArgs false
set_option linter.unusedVariables false
set_option linter.unusedSimpArgs false
namespace Go.Proofs.Ytlmbebbdamgfpaa
open Go.RowKit

/-- append(nil, row...) of an empty row -/
theorem wpList_app0 {w : World} {ops : Array Oper} {rest : List Oper} {o : Oper} {a : Act} {Q : Exit → Act → World → Prop} (hgd : o.guard = none) (s x : Operand)
 (ho : o.op = .call { callee := .builtin .append, args := #[s, x], argTypes := #[55, 55] })
 (hs : a.eval s = .slice none 0 0) (p : Option Addr) (c : Nat) (hx : a.eval x = .slice p 0 c)
 (h : wpList Try.prog ops Q rest (a.put o.dst (.slice none 0 0)) w) : wpList Try.prog ops Q (o :: rest) a w := by
 have hE : Elem Try.prog 55 58 2 32 := Elem.mk (z := .agg #[.bool false, .slice none 0 0]) Try.underlying55 (by kernel_rfl) rfl (by decide)
 obtain ⟨i, hi, hz, hsize, hbyt⟩ := info_parts infoW
 refine wpList_plain hgd fun K hK => ?_
 have hrun : (Builtin.append_ #[55, 55] o.type #[.slice none 0 0, .slice p 0 c]).run Try.prog w = .ok (.slice none 0 0) w := by
  cases p <;> simp [Builtin.append_, run_underlying hE.1, sizeOf, typeInfo, hi, Builtin.lenOf, Builtin.firstCells, loadCells, loadCellsFrom]
 unfold Oper.wp
 simp [execOp, ho, resolve, invoke, builtin, hs, hx, hrun, Result.andThen]
 exact hK _ _ h

theorem ln0_noU {cs : List Value} {L : Nat} (h1 : cs.length = L * 2) (h2 : ∀ k, k < L → cs[k * 2]? = some (.slice none 0 0) ∧ ∃ u, cs[k * 2 + 1]? = some (.int .i64 u)) : ∀ u ∈ cs, noU u := by
 intro u hu x e
 obtain ⟨q, hq, rfl⟩ := List.mem_iff_getElem.1 hu
 obtain ⟨k1, u8, k2⟩ := h2 (q / 2) (by omega)
 rcases Nat.mod_two_eq_zero_or_one q with e9 | e9
 ·rw [show q / 2 * 2 = q by omega, List.getElem?_eq_getElem hq, e] at k1; cases k1
 ·rw [show q / 2 * 2 + 1 = q by omega, List.getElem?_eq_getElem hq, e] at k2; cases k2

set_option maxRecDepth 100000 in
set_option maxHeartbeats 8000000 in
theorem lines_zero (v : Value) (M : List (List Int)) (w0 : World) (h : WMat w0 v M) (hm : M.length ≤ 1000) (hn : ∀ r ∈ M, r.length = 0) :
 Calls Try.prog 51 #[v] w0 fun e w' => ∃ B, e = .returned (.slice (some ⟨B, 0, none⟩) M.length M.length) ∧ (0 < M.length → w'.cell? ⟨B, 0, none⟩ = some (.slice none 0 0)) ∧ B < w'.heap.size ∧ Below w0.heap.size w0 w' := by
 have H := hZ h
 obtain ⟨av, cv, rfl, q1, q2⟩ := SliceOf.form h
 have Hn := hZ hn
 have HB := hZ (Below.refl w0.heap.size w0)
 clear h hn
 go_enter Try.func51, Try.ntmps51
 go_wp2_with (at_make; refine wpList_make_lines rfl rfl (M.length) rfl rfl rfl rfl (by omega) ?_)
 intro w1 h_9 hB hlt9
 obtain ⟨B, hb⟩ : ∃ b, w0.heap.size = b := ⟨_, rfl⟩
 rw [hb] at h_9 ⊢
 have Ob' := hZ h_9
 have hge_B : Hid (w0.heap.size ≤ B) := hZ (Nat.le_of_eq hb)
 have hlt_B : Hid (B < w1.heap.size) := hZ (by rw [← hb]; exact hlt9)
 clear h_9 hb hlt9
 replace HB := bT HB hB
 clear hB
 have Ob := Ob'
 clear Ob'
 go_wp2_with fail
 have HgR : Hid (w0.heap.size ≤ B) := hZ hge_B.o
 clear hge_B hlt_B
 go_loopw [11] (fun i wr => ∃ (j : Nat) (cs : List Value), j ≤ M.length ∧ i = .int .i64 j ∧ Hid (cs.length = M.length * 2 ∧ ∀ k, k < M.length → cs[k * 2]? = some (.slice none 0 0) ∧ ∃ u, cs[k * 2 + 1]? = some (.int .i64 u)) ∧ Hid (BlkC wr B 103 cs) ∧ Hid (Below w0.heap.size w0 wr)) (fun i _ => M.length - (intOf i).toNat)
 case atStart => exact ⟨0, _, by omega, rfl, hZ ⟨lnZ_len _, fun k hk => ⟨by rw [lnZ_at _ _ (by omega), Nat.mul_mod_left]; rfl, 0, by rw [lnZ_at _ _ (by omega), show (k * 2 + 1) % 2 = 1 by omega]; rfl⟩⟩, Ob, HB⟩
 case round =>
  clear HB Ob
  obtain ⟨j, cs, hj, rfl, HC, Ob, HB⟩ := hrel
  obtain ⟨w1, rfl⟩ : ∃ w' : World, w' = wr := ⟨_, rfl⟩
  by_cases hlt : j < M.length
  ·skip
   obtain ⟨b, cap, a, c, hv, hb, n1, HI, g1, g2⟩ := H.o.at_ j hlt
   injection hv with f1 f2 f3
   subst f1
   clear f2 f3
   rw [Hn.o _ (List.getElem_mem hlt)] at n1
   replace n1 := (HB.o.cell (p := ⟨b, j, none⟩) hb).trans n1
   clear HI g1
   have i1 : (0 : Int) ≤ (j : Int) := by omega
   have i2 : (j : Int) < (M.length : Int) := by omega
   obtain ⟨h0c, u9, h1c⟩ := HC.o.2 j hlt
   have e0 : w1.cell? ⟨B, j * 2, none⟩ = some (.slice none 0 0) := (Ob.o.cell _).trans h0c
   have e1 : w1.cell? ⟨B, j * 2 + 1, none⟩ = some (.int .i64 u9) := (Ob.o.cell _).trans h1c
   clear h0c h1c
   have HL9 := hZ (ln0_noU HC.o.1 HC.o.2)
   have e20 := Ob.o.frozen (j * 2)
   have e21 := Ob.o.frozen (j * 2 + 1)
   obtain ⟨w2, hw⟩ : ∃ w', ((w1.setCell ⟨B, j * 2, none⟩ (.slice none 0 0)).setCell ⟨B, j * 2 + 1, none⟩ (.int .i64 (j : Int))) = w' := ⟨_, rfl⟩
   have ho : Only (fun b => b = B) w1 w2 := by rw [← hw]; exact (((Only.refl (fun b => b = B) _).set (p := ⟨B, j * 2, none⟩) rfl _).set (p := ⟨B, j * 2 + 1, none⟩) rfl _)
   have hN : ∀ b, b = B → NoInt w1 b := fun b e => e ▸ Ob.o.noInt HL9.o
   replace Ob := hZ ((by have h1 := (Ob.o.set (j * 2) (.slice none 0 0)).set (j * 2 + 1) (.int .i64 (j : Int)); rw [hw] at h1; exact h1))
   replace HB := hZ (below_only HB.o ho (fun b e => by have := HgR.o; omega) HB.o.size)
   clear ho hN
   go_wp2_with (at_builtin; refine wpList_app0 rfl _ _ rfl rfl _ _ rfl ?_)
   go_roundw
   case rel =>
    refine ⟨j + 1, _, by omega, by go_num, hZ ⟨by rw [List.length_set, List.length_set]; exact HC.o.1, fun k hk => ?_⟩, Ob, HB⟩
    obtain ⟨k1, u8, k2⟩ := HC.o.2 k hk
    have hl := HC.o.1
    by_cases e9 : k = j
    ·subst e9; exact ⟨by rw [List.getElem?_set_ne (by omega), List.getElem?_set_self (by omega)], (k : Int), by rw [List.getElem?_set_self (by rw [List.length_set]; omega)]⟩
    ·exact ⟨by rw [List.getElem?_set_ne (by omega), List.getElem?_set_ne (by omega)]; exact k1, u8, by rw [List.getElem?_set_ne (by omega), List.getElem?_set_ne (by omega)]; exact k2⟩
   case measure => simp [intOf]; omega
  ·skip
   go_wp2_with fail
   go_ret
   exact ⟨B, rfl, fun h0 => (Ob.o.cell 0).trans (by have := (HC.o.2 0 h0).1; simpa using this), Ob.o.lt, HB.o⟩

set_option maxRecDepth 100000 in
set_option maxHeartbeats 8000000 in
theorem eliminate_zero (w0 : World) (B L cB : Nat) (hL : L ≤ 1000) (h0 : 0 < L → w0.cell? ⟨B, 0, none⟩ = some (.slice none 0 0)) (hlt : B < w0.heap.size) :
 Calls Try.prog 50 #[.slice (some ⟨B, 0, none⟩) L cB] w0 fun e w' => ∃ s a n c, e = .returned (.tuple #[.slice none 0 0, .agg #[.bool s, .slice a n c]]) ∧ WInt w' (.agg #[.bool s, .slice a n c]) 1 ∧ Below w0.heap.size w0 w' := by
 have X0 := hZ h0
 have Hlt := hZ hlt
 have HB := hZ (Below.refl w0.heap.size w0)
 clear h0 hlt
 obtain ⟨w1, hw⟩ : ∃ w', w0.alloc (.cells #[.bool false, .slice none 0 0] 58) = w' := ⟨_, rfl⟩
 have hB := aB hw
 obtain ⟨br, hb⟩ : ∃ b, w0.heap.size = b := ⟨_, rfl⟩
 have Tr' : Hid (Two w1 br 58 (.bool false) (.slice none 0 0)) := hZ (by rw [← hw, ← hb]; exact Two.new w0 58 (.bool false) (.slice none 0 0))
 have Hbr : Hid (w0.heap.size ≤ br) := hZ (by omega)
 replace HB := bT HB hB
 clear hB
 have Tr := Tr'
 clear Tr'
 go_enter Try.func50, Try.ntmps50
 go_wp2_with fail
 clear hw hb
 refine (from_b (w := w1) 1 (by omega) (by omega)).mono ?_
 rintro e w2 ⟨s_u, a_u, n_u, c_u, rfl, h_u, hB⟩
 have Vu := hZ h_u
 replace Tr := hZ (Tr.o.blw hB)
 replace HB := bT HB hB
 clear hB
 clear h_u
 have Hlr := hZ Tr.o.lt
 obtain ⟨w3, hw⟩ : ∃ w', (w2.alloc (.cells #[.bool s_u, .slice a_u n_u c_u] 58)) = w' := ⟨_, rfl⟩
 have hB := aB hw
 obtain ⟨bd, hb_bd⟩ : ∃ b, w2.heap.size = b := ⟨_, rfl⟩
 have h9 := Bx.new (w := w2) Vu.o
 rw [hw, hb_bd] at h9
 have Fd' := hZ h9
 have hge_bd : w2.heap.size ≤ bd := by omega
 clear h9
 replace Tr := hZ (Tr.o.blw hB)
 replace Vu := hZ (Vu.o.blw hB)
 replace HB := bT HB hB
 have Fd := Fd'
 clear Fd'
 clear hB
 have Hbd : Hid (br < bd) := hZ (by have := Hlr.o; omega)
 clear hge_bd Hlr
 by_cases hL0 : L = 0
 ·skip
  subst hL0
  go_wp2_with fail
  clear hw hb_bd
  clear Vu
  obtain ⟨w4, hwd⟩ : ∃ w', w3.drew = w' := ⟨_, rfl⟩
  have hB := dB hwd
  replace Tr := hZ (Tr.o.blw hB)
  replace Fd := hZ (Fd.o.blw hB)
  replace HB := bT HB hB
  clear hB
  have HBr : Hid (Only (fun b => False) w4 w4) := hZ (Only.refl _ _)
  refine startL [2] (fun w' => Only (fun b => False) w4 w') (by kernel_rfl) (by rw [hwd]; exact Only.refl _ _) (fun hHeld => ?_)
  rw [hwd] at hHeld ⊢
  clear hwd
  obtain ⟨s_d, a_d, n_d, c_d, t_d, h_d⟩ := Fd.o
  have d0d := t_d.cell0
  have d1d := t_d.cell1
  have Vd := hZ h_d
  clear t_d h_d
  refine tP 0 16 (v := ?_) rfl rfl ?_ ?_
  rotate_left
  ·(intro w hSw; have x0 := (hSw.cell (p := ⟨bd, 0, none⟩) (fun h => h) Fd.o.lt).trans d0d; have x1 := (hSw.cell (p := ⟨bd, 1, none⟩) (fun h => h) Fd.o.lt).trans d1d; go_simp; first | done | with_reducible rfl)
  simp only [sX1, sX2, sX3]
  refine pP 1 2 (v := ?_) rfl rfl ?_ ?_
  rotate_left
  ·(intro w; go_simp; first | done | with_reducible rfl)
  simp only [sX1, sX2, sX3]
  clear d0d d1d
  have e0 := Tr.o.cell0
  have e1 := Tr.o.cell1
  have e2 := Tr.o.frozen 0
  have e3 := Tr.o.frozen 1
  have hn9 : NoInt w4 (br) := Tr.o.noInt (fun _ h => by cases h) (fun _ h => by cases h)
  obtain ⟨w5, hw⟩ : ∃ w', (w4.setCell ⟨br, 0, none⟩ (.bool s_d)).setCell ⟨br, 1, none⟩ (.slice a_d n_d c_d) = w' := ⟨_, rfl⟩
  have hw2 : st2 w4 (br) (0) (1) s_d a_d n_d c_d = w5 := hw
  replace Tr := hZ (Two.put1 (s := s_d) (a := a_d) (n := n_d) (c := c_d) Tr.o)
  rw [hw2] at Tr
  replace Fd := hZ (Fd.o.offe hw2 hn9 (by have := Hbd.o; omega))
  replace Vd := hZ (Vd.o.offe hw2 hn9)
  replace HB := hZ (bO hw2 HB.o Hbr.o)
  clear hw2 hn9
  refine lateL 2 (by kernel_rfl) (by decide) rfl (fun K hK => ?_)
  go_simp
  try rw [hw]
  refine hK.out _ _ ?_
  clear hK K
  try simp only [Act.put, sX1, sX2, sX3]
  clear hw e0 e1 e2 e3
  refine doneL (by kernel_rfl) ?_ _
  clear hHeld
  have g0 := Tr.o.cell0
  have g1 := Tr.o.cell1
  go_wp2_with fail
  exact bodyPost_ret (v := .tuple #[.slice none 0 0, .agg #[.bool s_d, .slice a_d n_d c_d]]) (by simp [results, Try.results50, go_sem, g0, g1]) rfl ⟨_, _, _, _, rfl, Vd.o, HB.o⟩
 ·skip
  have hl1 : (0 : Int) < (L : Int) := by omega
  have hl2 : ((L : Int) == 0) = false := by rw [beq_eq_false_iff_ne]; omega
  have hl3 : (L == 0) = false := by rw [beq_eq_false_iff_ne]; omega
  have x0 := (HB.o.cell (p := ⟨B, 0, none⟩) Hlt.o).trans (X0.o (by omega))
  go_wp2_with fail
  clear hw hb_bd
  clear Vu
  clear x0 hl2 hl3
  go_loopw [22, 5] (fun i vp wr => i = .int .i64 0 ∧ vp = .slice none 0 0 ∧ w3 = wr) (fun _ _ _ => 0)
  case atStart => exact ⟨rfl, rfl, rfl⟩
  case round =>
   obtain ⟨rfl, rfl, rfl⟩ := hrel
   go_wp2_with fail
   obtain ⟨w4, hwd⟩ : ∃ w', w3.drew = w' := ⟨_, rfl⟩
   have hB := dB hwd
   replace Tr := hZ (Tr.o.blw hB)
   replace Fd := hZ (Fd.o.blw hB)
   replace HB := bT HB hB
   clear hB
   have HBr : Hid (Only (fun b => False) w4 w4) := hZ (Only.refl _ _)
   refine startL [3] (fun w' => Only (fun b => False) w4 w') (by kernel_rfl) (by rw [hwd]; exact Only.refl _ _) (fun hHeld => ?_)
   rw [hwd] at hHeld ⊢
   clear hwd
   obtain ⟨s_d, a_d, n_d, c_d, t_d, h_d⟩ := Fd.o
   have d0d := t_d.cell0
   have d1d := t_d.cell1
   have Vd := hZ h_d
   clear t_d h_d
   refine pP 0 68 (v := ?_) rfl rfl ?_ ?_
   rotate_left
   ·(intro w; go_simp; first | done | with_reducible rfl)
   simp only [sX1, sX2, sX3]
   refine tP 1 69 (v := ?_) rfl rfl ?_ ?_
   rotate_left
   ·(intro w hSw; have x0 := (hSw.cell (p := ⟨bd, 0, none⟩) (fun h => h) Fd.o.lt).trans d0d; have x1 := (hSw.cell (p := ⟨bd, 1, none⟩) (fun h => h) Fd.o.lt).trans d1d; go_simp; first | done | with_reducible rfl)
   simp only [sX1, sX2, sX3]
   clear d0d d1d
   refine pP 2 2 (v := ?_) rfl rfl ?_ ?_
   rotate_left
   ·(intro w; go_simp; first | done | with_reducible rfl)
   simp only [sX1, sX2, sX3]
   have e0 := Tr.o.cell0
   have e1 := Tr.o.cell1
   have e2 := Tr.o.frozen 0
   have e3 := Tr.o.frozen 1
   have hn9 : NoInt w4 (br) := Tr.o.noInt (fun _ h => by cases h) (fun _ h => by cases h)
   obtain ⟨w5, hw⟩ : ∃ w', (w4.setCell ⟨br, 0, none⟩ (.bool s_d)).setCell ⟨br, 1, none⟩ (.slice a_d n_d c_d) = w' := ⟨_, rfl⟩
   have hw2 : st2 w4 (br) (0) (1) s_d a_d n_d c_d = w5 := hw
   replace Tr := hZ (Two.put1 (s := s_d) (a := a_d) (n := n_d) (c := c_d) Tr.o)
   rw [hw2] at Tr
   replace Fd := hZ (Fd.o.offe hw2 hn9 (by have := Hbd.o; omega))
   replace Vd := hZ (Vd.o.offe hw2 hn9)
   replace HB := hZ (bO hw2 HB.o Hbr.o)
   clear hw2 hn9
   refine lateL 3 (by kernel_rfl) (by decide) rfl (fun K hK => ?_)
   go_simp
   try rw [hw]
   refine hK.out _ _ ?_
   clear hK K
   try simp only [Act.put, sX1, sX2, sX3]
   clear hw e0 e1 e2 e3
   refine doneL (by kernel_rfl) ?_ _
   clear hHeld
   have g0 := Tr.o.cell0
   have g1 := Tr.o.cell1
   go_wp2_with fail
   exact bodyPost_ret (v := .tuple #[.slice none 0 0, .agg #[.bool s_d, .slice a_d n_d c_d]]) (by simp [results, Try.results50, go_sem, g0, g1]) rfl ⟨_, _, _, _, rfl, Vd.o, HB.o⟩
end Go.Proofs.Ytlmbebbdamgfpaa
set_option linter.unusedVariables false
set_option linter.unusedSimpArgs false
namespace Go.Proofs.Ytlmbebbdamgfpaa

/-- the rows that normal answers -/
def normL (sq M : List (List Int)) (k : Nat) (d : Int) (f fr n : Nat) : List (List Int) := (sq.drop f).map (fun s => extL s M k d fr (n - fr))
theorem SqTo.mem {m : Int} {n : Nat} {Sq R R' : List Vec} (h : SqTo m n Sq R) (hm : ∀ r, r ∈ R ↔ r ∈ R') : SqTo m n Sq R' :=
 ⟨h.tri, fun r hr => (h.into r hr).trans (fun s hs => InSpan.mem (by
  rcases List.mem_append.1 hs with h1 | h1
  ·exact List.mem_append.2 (.inl h1)
  ·exact List.mem_append.2 (.inr ((hm s).1 h1)))), fun r hr => h.onto r ((hm r).2 hr)⟩
theorem ext_out (u : Vec) (j : Nat) (M : List (List Int)) (hj : ∀ r ∈ M, r.length ≤ j) : ext_ u (M.map vec) 0 j = 0 :=
 ext_zero _ _ _ _ (fun t ht => by
  rw [List.getElem_map, vec_out (hj _ (List.getElem_mem _)), Int.mul_zero])
theorem ElimL.norm {M0 M sq sq' : List (List Int)} {ps : List Nat} {d m : Int} {col n f fr : Nat} (h : ElimL M0 M ps d col) (hz : ∀ i, ∀ h : i < M.length, ps.length ≤ i → ∀ j, vec M[i] j = 0) (hn : ∀ r ∈ M, r.length = n) (hm : m = if d < 0 then -d else d)
 (hq : SqTo m ps.length (sq.map vec) (M0.map (fun r => res ps (vec r)))) (hr : Reds m ps.length 0 (sq.map vec) (sq'.map vec)) (hf : f < ps.length) (h1 : ∀ i (h : i < ps.length), i < f → ps[i] < fr) (h2 : fr ≤ ps[f]) (hfr : fr ≤ n) :
 NormSpec (M0.map vec) fr ((normL sq' M ps.length d f fr n).map vec) := by
 obtain ⟨A, a1, a2, a3, -⟩ := h
 have hmA : ∀ r, r ∈ A.map vec ↔ r ∈ M0.map vec := fun r => by
  simp only [List.mem_map]
  exact ⟨fun ⟨x, hx, e⟩ => ⟨x, (a2 x).1 hx, e⟩, fun ⟨x, hx, e⟩ => ⟨x, (a2 x).2 hx, e⟩⟩
 have hmR : ∀ r, r ∈ M0.map (fun r => res ps (vec r)) ↔ r ∈ (A.map vec).map (res ps) := fun r => by
  simp only [List.mem_map, List.map_map]
  exact ⟨fun ⟨x, hx, e⟩ => ⟨x, (a2 x).2 hx, e⟩, fun ⟨x, hx, e⟩ => ⟨x, (a2 x).1 hx, e⟩⟩
 have h0 : ∀ i (h : i < (M.map vec).length), ps.length ≤ i → ∀ j, (M.map vec)[i] j = 0 := fun i hi hp j => by
  rw [List.getElem_map]
  exact hz i (by simpa using hi) hp j
 have hu : ∀ k, k < ps.length → InSpan ((A.map vec).map (res ps)) (unitV m k) := fun k hk => by
  have := unit_abs (a3.unit (fun i hi => a3.minor _ (List.getElem_mem _)) (fun i hi t ht hip => by
   rw [a3.diag i t hi hip ht]
   by_cases e : i = t
   ·rw [if_pos e, if_pos e.symm]
   ·rw [if_neg e, if_neg (Ne.symm e)]) k hk)
  rwa [← hm] at this
 have hT : Tri ps.length (sq'.map vec) ((A.map vec).map (res ps)) := (hq.mem hmR).tri_ hr hu
 have hV : Extd (sq'.map (fun s => fun j => ext_ (vec s) ((M.map vec).take ps.length) 0 j / d)) (sq'.map vec) (M.map vec) ps.length d :=
  ⟨by simp, fun i hi hi' j => by simp⟩
 have := (a3.norm_some h0 hT hV hf h1 h2).mem hmA
 have e : ((sq'.map (fun s => fun j => ext_ (vec s) ((M.map vec).take ps.length) 0 j / d)).drop f).map (sh fr) = (normL sq' M ps.length d f fr n).map vec := by
  unfold normL
  rw [← List.map_drop, List.map_map, List.map_map]
  refine List.map_congr_left (fun s _ => funext (fun j => ?_))
  show ext_ (vec s) ((M.map vec).take ps.length) 0 (fr + j) / d = vec (extL s M ps.length d fr (n - fr)) j
  rcases Nat.lt_or_ge j (n - fr) with hj | hj
  ·rw [vec_at (by rw [extL_len]; exact hj)]
   simp [extL, extE, List.map_take]
  ·rw [vec_out (by rw [extL_len]; exact hj), ← List.map_take, ext_out _ _ _ (fun r hr => by rw [hn r (List.mem_of_mem_take hr)]; omega)]
   simp
 rwa [e] at this
theorem ElimL.norm0 {M0 M : List (List Int)} {ps : List Nat} {d : Int} {col fr : Nat} (h : ElimL M0 M ps d col) (hz : ∀ i, ∀ h : i < M.length, ps.length ≤ i → ∀ j, vec M[i] j = 0) (h1 : ∀ p ∈ ps, p < fr) : NormSpec (M0.map vec) fr [] := by
 obtain ⟨A, a1, a2, a3, -⟩ := h
 refine (a3.norm_none (fun i hi hp j => ?_) h1).mem (fun r => ?_)
 ·rw [List.getElem_map]
  exact hz i (by simpa using hi) hp j
 ·simp only [List.mem_map]
  exact ⟨fun ⟨x, hx, e⟩ => ⟨x, (a2 x).1 hx, e⟩, fun ⟨x, hx, e⟩ => ⟨x, (a2 x).2 hx, e⟩⟩
theorem norm_void {M0 : List (List Int)} (h : ∀ r ∈ M0, r.length = 0) (fr : Nat) : NormSpec (M0.map vec) fr [] := by
 refine ⟨trivial, fun v => ⟨fun hv => ⟨fun _ => 0, InSpan.zero, fun _ _ => rfl, fun j => span_nil hv j⟩, fun ⟨u, h1, h2, h3⟩ => InSpan.zero.congr (fun j => ?_)⟩⟩
 obtain ⟨x, hx⟩ := span_ext.1 h1
 rw [h3, hx, ext_out _ _ _ (fun r hr => by rw [h r hr]; omega)]
end Go.Proofs.Ytlmbebbdamgfpaa
set_option linter.unusedVariables false
set_option linter.unusedSimpArgs false
namespace Go.Proofs.Ytlmbebbdamgfpaa
open Go.RowKit

theorem pf_step {ps : List Nat} {f fr : Nat} (h : ∀ q (h : q < ps.length), q < f → ps[q] < fr) (hf : f < ps.length) (hp : ps[f] < fr) : ∀ q (h : q < ps.length), q < f + 1 → ps[q] < fr := by
 intro q hq hqf
 by_cases e : q = f
 ·subst e; exact hp
 ·exact h q hq (by omega)
theorem own_ne_row {w : World} {base n g b : Nat} {v : Value} {xs : List Value} {zs : List Int} (h : OwnN w base 55 1 v n xs) (hb : v.ownBlock = some b) (hr : WRow w g zs) : g ≠ b := by
 rintro rfl
 obtain ⟨cs, h1, -⟩ := hr
 rcases h.1.2 with ⟨hv, _⟩ | ⟨g', cap, cur, hv, _, hg, _⟩
 ·rw [hv] at hb; cases hb
 ·rw [hv] at hb
  simp only [Value.ownBlock, Option.some.injEq] at hb
  subst hb
  unfold BlkC at h1
  rw [h1] at hg
  injection hg with hg
  injection hg with _ hg2 _
  exact absurd hg2 (by decide)
theorem WMat.of_own {w : World} {base N : Nat} {v : Value} {l : List Rw} {M : List (List Int)} (h : OwnN w base 55 1 v l.length (l.map (rwC N))) (hr : RowsIn w l N M) : WMat w v M := by
 refine SliceOf.of_own (css := l.map (fun x => [rwC N x])) (base := base) (e := 55) (by rw [flatten_one, List.length_map]; exact h.1) (fun cs h => by obtain ⟨x, _, rfl⟩ := List.mem_map.1 h; rfl) (by rw [List.length_map]; exact hr.len.symm) (fun j h1 h2 => ?_)
 have h3 : j < l.length := by rw [← hr.len]; exact h1
 obtain ⟨k1, k2⟩ := hr.row j h3
 rw [List.getElem_map]
 refine ⟨_, rfl, ?_⟩
 have := k1.of_ (c := l[j].2) (by rw [k2]; exact (hr.cap j h3).1) (hr.cap j h3).2
 rw [k2] at this
 exact this
/-- what normal answers -/
def NormPost (w0 : World) (M0 : List (List Int)) (n fr : Nat) (e : Ending) (w' : World) : Prop :=
 ∃ vr H, e = .returned vr ∧ WMat w' vr H ∧ (∀ r ∈ H, r.length = n - fr) ∧ (∀ r ∈ H, ∀ x ∈ r, Sz 8100 x) ∧ H.length ≤ M0.length ∧ NormSpec (M0.map vec) fr (H.map vec) ∧ Below w0.heap.size w0 w'
theorem normL_sz {sq M : List (List Int)} {k : Nat} {d : Int} {f fr n : Nat} (hs : ∀ r ∈ sq, ∀ x ∈ r, Sz 4001 x) (hM : ∀ r ∈ M, ∀ x ∈ r, Sz 4000 x) (hk : k ≤ M.length) (hl : M.length ≤ 64) (hd : d ≠ 0) : ∀ r ∈ normL sq M k d f fr n, ∀ x ∈ r, Sz 8100 x := by
 intro r hr x hx
 obtain ⟨s, hs2, rfl⟩ := List.mem_map.1 hr
 obtain ⟨j, _, rfl⟩ := List.mem_map.1 hx
 exact ((extE_sz (hs s (List.mem_of_mem_drop hs2)) hM k hk hl).div hd).mono (by omega)

set_option maxRecDepth 100000 in
set_option maxHeartbeats 8000000 in
theorem normal_void (w0 : World) (v : Value) (M0 : List (List Int)) (n fr : Nat) (h : WMat w0 v M0) (hM : M0.length ≤ 1000) (hn : ∀ r ∈ M0, r.length = 0) :
 Calls Try.prog 32 #[v, .int .i64 fr] w0 (NormPost w0 M0 n fr) := by
 obtain ⟨av, cv, rfl, q1, q2⟩ := SliceOf.form h
 have HN : Hid (NormSpec (M0.map vec) fr []) := hZ (norm_void hn fr)
 have HL := hZ (lines_zero _ M0 w0 h hM hn)
 have HB := hZ (Below.refl w0.heap.size w0)
 clear h hn
 go_enter Try.func32, Try.ntmps32
 go_wp2_with fail
 refine HL.o.mono ?_
 rintro e w1 ⟨B, rfl, h1, h2, hB⟩
 have HE := hZ (eliminate_zero w1 B M0.length M0.length hM h1 h2)
 replace HB := bT HB hB
 clear hB h1 h2 HL
 go_wp2_with fail
 refine HE.o.mono ?_
 rintro e w2 ⟨s_d, a_d, n_d, c_d, rfl, h1, hB⟩
 replace HB := bT HB hB
 clear hB HE
 have Vd := hZ h1
 clear h1
 obtain ⟨w3, hw⟩ : ∃ w', (w2.alloc (.cells #[.bool s_d, .slice a_d n_d c_d] 58)) = w' := ⟨_, rfl⟩
 have hB := aB hw
 obtain ⟨bd, hb_bd⟩ : ∃ b, w2.heap.size = b := ⟨_, rfl⟩
 have h9 := Bx.new (w := w2) Vd.o
 rw [hw, hb_bd] at h9
 have Fd' := hZ h9
 have hge_bd : w2.heap.size ≤ bd := by omega
 clear h9
 replace Vd := hZ (Vd.o.blw hB)
 replace HB := bT HB hB
 have Fd := Fd'
 clear Fd'
 clear hB
 go_wp2_with fail
 go_loopw [8] (fun i wr => i = .int .i64 0 ∧ w3 = wr) (fun _ _ => 0)
 case atStart => exact ⟨rfl, rfl⟩
 case round =>
  obtain ⟨rfl, rfl⟩ := hrel
  go_wp2_with fail
  go_ret
  exact ⟨_, [], rfl, SliceOf.nil _ _ (by omega), by simp, by simp, by simp, HN.o, HB.o⟩

set_option maxRecDepth 100000 in
set_option maxHeartbeats 8000000 in
theorem normal_any (w0 : World) (v : Value) (M0 : List (List Int)) (n fr : Nat) (h : WMat w0 v M0) (h0 : 0 < M0.length) (hn : ∀ r ∈ M0, r.length = n) (hn0 : 0 < n) (hn2 : n ≤ 1000) (hfr : fr ≤ n) (hs : Sml M0) :
 Calls Try.prog 32 #[v, .int .i64 fr] w0 (NormPost w0 M0 n fr) := by
 obtain ⟨i0, hi, hz0, hz1, hz2⟩ := info_parts infoWs
 have Hi := hZ hi
 have Hz0 := hZ hz0
 have Hz1 := hZ hz1
 have Hz2 := hZ hz2
 clear hi hz0 hz1 hz2
 obtain ⟨av, cv, rfl, q1, q2⟩ := SliceOf.form h
 have hM := hs.1
 have H := hZ h
 have Hn := hZ hn
 have HS := hZ hs
 have HL := hZ (lines_any _ M0 n w0 h (by omega) hn hn0 hn2)
 have HB := hZ (Below.refl w0.heap.size w0)
 clear h hn hs
 go_enter Try.func32, Try.ntmps32
 go_wp2_with fail
 refine HL.o.mono ?_
 rintro e w1 ⟨B, l0, rfl, hLn, hl, hgB, hgl, hB⟩
 have HE := hZ (eliminate_any w1 B M0.length n l0 M0 hLn (by omega) (by omega) (by omega) hn2 HS.o)
 have HGl : Hid (w0.heap.size ≤ B ∧ ∀ i (h : i < l0.length), w0.heap.size ≤ l0[i].1) := hZ ⟨hgB, hgl⟩
 replace HB := bT HB hB
 clear hB HL hLn hgB hgl
 rw [hl] at HE
 go_wp2_with fail
 refine HE.o.mono ?_
 rintro e w2 ⟨vp, s_d, a_d, c_d, n_d, d, l, M, ps, col, rfl, h1, h2, h3, hll, h5, h6, h7, ho⟩
 obtain ⟨ap, cp, hvp, q3, q4⟩ := h2.form
 rw [List.length_map] at hvp q3
 subst hvp
 have HP := hZ h2
 have K := hZ h3
 have HEL := hZ h5
 have HZ := hZ h6
 have HPL := hZ h7
 replace HB := hZ (below_only HB.o ho (by rintro b (rfl | ⟨i, hi, rfl⟩); exact HGl.o.1; exact HGl.o.2 i hi) HB.o.size)
 have hl64 : l.length = M0.length := by omega
 have Hml := hZ h3.len
 have Sd := hZ (h5.dsz HS.o)
 have SM := hZ (h5.sz HS.o)
 have hd0 := h5.d0
 have hpl : ps.length ≤ M0.length := by have := h5.le; have := h3.len; omega
 have Vd : Hid (WInt w2 (.agg #[.bool s_d, .slice a_d n_d c_d]) d) := hZ h1
 have HMn := hZ h3.rowsN
 clear HE HGl h1 h2 h3 h5 h6 h7 ho hl hll
 obtain ⟨w3, hw⟩ : ∃ w', (w2.alloc (.cells #[.bool s_d, .slice a_d n_d c_d] 58)) = w' := ⟨_, rfl⟩
 have hB := aB hw
 obtain ⟨bd, hb_bd⟩ : ∃ b, w2.heap.size = b := ⟨_, rfl⟩
 have h9 := Bx.new (w := w2) Vd.o
 rw [hw, hb_bd] at h9
 have Fd' := hZ h9
 have hge_bd : w2.heap.size ≤ bd := by omega
 clear h9
 replace Vd := hZ (Vd.o.blw hB)
 replace K := hZ (K.o.blw hB)
 replace HB := bT HB hB
 have Fd := Fd'
 clear Fd'
 clear hB
 replace HP := hZ (HP.o.below (show Below w2.heap.size w2 w3 by rw [← hw]; exact (Below.refl _ _).alloc (Nat.le_refl _) _))
 go_wp2_with fail
 clear hw hb_bd
 clear Vd
 clear hge_bd
 go_loopw [8] (fun i wr => ∃ f : Nat, f ≤ ps.length ∧ i = .int .i64 f ∧ Hid (∀ q (h : q < ps.length), q < f → ps[q] < fr) ∧ w3 = wr) (fun i _ => ps.length - (intOf i).toNat)
 case atStart => exact ⟨0, by omega, rfl, hZ (fun q h h2 => by omega), rfl⟩
 case round =>
  obtain ⟨f, hf, rfl, HF, rfl⟩ := hrel
  by_cases hfl : f < ps.length
  ·skip
   have i1 : (0 : Int) ≤ (f : Int) := by omega
   have i2 : (f : Int) < (ps.length : Int) := by omega
   obtain ⟨b2, cap2, hv, hb2, n2⟩ := HP.o.at_ f (by simpa using hfl)
   rw [List.length_map] at hv
   injection hv with f1 f2 f3
   subst f1
   clear f2 f3
   rw [List.getElem_map] at n2
   obtain ⟨p, hp⟩ : ∃ p, ps[f] = p := ⟨_, rfl⟩
   rw [hp] at n2
   have Hp := hZ hp
   clear hp hb2
   by_cases hpf : p < fr
   ·skip
    have s1 : (p : Int) < (fr : Int) := by omega
    go_wp2_with fail
    go_roundw
    case rel => exact ⟨f + 1, by omega, by go_num, hZ (pf_step HF.o hfl (by rw [Hp.o]; exact hpf)), by trivial⟩
    case measure => simp [intOf]; omega
   ·skip
    have s1 : ¬ (p : Int) < (fr : Int) := by omega
    have s2 : ((f : Int) == (ps.length : Int)) = false := by rw [beq_eq_false_iff_ne]; omega
    have s3 : (f == ps.length) = false := by rw [beq_eq_false_iff_ne]; omega
    have Hfr2 : Hid (fr ≤ ps[f]) := hZ (by rw [Hp.o]; omega)
    obtain ⟨s_q, a_q, n_q, c_q, t_q, h_q⟩ := Fd.o
    have d0q := t_q.cell0
    have d1q := t_q.cell1
    have Vq := hZ h_q
    clear t_q h_q
    go_wp2_with fail
    clear s1 s2 s3 n2
    clear d0q d1q
    have HT := hZ (triangle_any w3 _ _ _ M0 n ps d (H.o.blw HB.o) (by omega) Hn.o hn2 HP.o HPL.o (by omega) Vq.o hd0 Sd.o (fun r hr x hx => Sz.of_pow (HS.o.2 r hr x hx) (by omega)))
    refine HT.o.mono ?_
    rintro e w4 ⟨R, l2, sq, sq2, rfl, hRS, hl2, hq1, hq2, hq3, hB⟩
    clear HT
    have RS := hZ hRS
    have HQ := hZ (And.intro hq1 hq2)
    clear Vq
    replace K := hZ (K.o.blw hB)
    replace Fd := hZ (Fd.o.blw hB)
    replace HB := bT HB hB
    clear hB
    have hm0 : 0 < (if d < 0 then -d else d) := by split <;> omega
    have Hbq : Hid (∀ r ∈ sq2, ∀ x ∈ r, Sz 4001 x) := hZ (fun r hr x hx => by have h1 := hq3 r hr x hx; exact (Sd.o.of_le (by split at h1 <;> omega)).mono (by omega))
    obtain ⟨N, hN⟩ : ∃ N, n - fr = N := ⟨_, rfl⟩
    have HNN := hZ hN
    have hN1 : N ≤ 1000 := by omega
    have HH := hZ (HEL.o.norm HZ.o HMn.o rfl hq1 hq2 hfl HF.o Hfr2.o hfr)
    have HHs := hZ (normL_sz (f := f) (fr := fr) (n := n) Hbq.o SM.o (show ps.length ≤ M.length by rw [Hml.o]; omega) (by rw [Hml.o]; omega) hd0)
    have Hsq : Hid (sq2.length = ps.length) := hZ (by rw [hRS.len]; exact hl2)
    have HHl : Hid ((normL sq2 M ps.length d f fr n).length = ps.length - f) := hZ (by unfold normL; rw [List.length_map, List.length_drop, Hsq.o])
    have HHn : Hid (∀ r ∈ normL sq2 M ps.length d f fr n, r.length = n - fr) := hZ (fun r hr => by obtain ⟨s, _, rfl⟩ := List.mem_map.1 hr; exact extL_len)
    have HHa : Hid (∀ t (h : t < (normL sq2 M ps.length d f fr n).length) (h' : f + t < sq2.length), (normL sq2 M ps.length d f fr n)[t] = extL sq2[f + t] M ps.length d fr N) := hZ (fun t h h' => by rw [← HNN.o]; simp [normL])
    generalize normL sq2 M ps.length d f fr n = Hm at *
    have HRL : Hid (l2.length = ps.length) := hZ hl2
    clear hRS hq1 hq2 hq3 hN hl2 HQ HF Hfr2
    go_wp2_with fail
    obtain ⟨WB, hWB⟩ : ∃ W : World, W = w4 := ⟨_, rfl⟩
    rw [← hWB] at K Fd RS HB
    have KL := K
    clear K
    have HBL : Hid (Below WB.heap.size WB w4) := hZ (by rw [hWB]; exact Below.refl _ _)
    have Wp : Hid (OwnN w4 WB.heap.size 55 1 (.slice none 0 0) ([] : List Rw).length (([] : List Rw).map (rwC N))) := hZ (OwnN.nil _ _ _ _)
    clear hWB
    go_loopw [10, 11] (fun vr i wr => ∃ (t : Nat) (gl : List Rw), f ≤ t ∧ t ≤ ps.length ∧ i = .int .i64 t ∧ Hid (gl.length = t - f) ∧ Hid (OwnN wr WB.heap.size 55 1 vr gl.length (gl.map (rwC N))) ∧ Hid (RowsIn wr gl N (Hm.take (t - f))) ∧ Hid (Below WB.heap.size WB wr)) (fun _ i _ => ps.length - (intOf i).toNat)
    case atStart => exact ⟨f, [], by omega, by omega, rfl, hZ (by simp), Wp, hZ (by rw [Nat.sub_self]; exact RowsIn.nil _ _), HBL⟩
    case round =>
     clear Wp HBL
     obtain ⟨t, gl, hft, ht, rfl, HG, Wp, RI, HBL⟩ := hrel
     obtain ⟨w4, rfl⟩ : ∃ w' : World, w' = wr := ⟨_, rfl⟩
     obtain ⟨pa, pc, hv, hpc1, hpc2⟩ := Wp.o.form
     subst hv
     rw [HG.o] at hpc1
     by_cases htl : t < ps.length
     ·skip
      have i1 : (0 : Int) ≤ (t : Int) := by omega
      have i2 : (t : Int) < (ps.length : Int) := by omega
      have htl2 : t < l2.length := by rw [HRL.o]; exact htl
      have hts : t < sq2.length := by rw [Hsq.o]; exact htl
      have htm : t - f < Hm.length := by have := HHl.o; omega
      obtain ⟨gs, hgs⟩ : ∃ g, l2[t].1 = g := ⟨_, rfl⟩
      obtain ⟨cs, hcs⟩ : ∃ c, l2[t].2 = c := ⟨_, rfl⟩
      have Hgs := hZ (And.intro hgs hcs)
      clear hgs hcs
      go_wp2_with fail
      have HOl := hZ Wp.o.lt
      obtain ⟨w5, hwd⟩ : ∃ w', w4.drew = w' := ⟨_, rfl⟩
      have hB := dB hwd
      replace RI := hZ (RI.o.blw hB)
      replace Wp := hZ (Wp.o.blw hB)
      replace HBL := bT HBL hB
      clear hB
      have HBr : Hid (Only (fun b => False) w5 w5) := hZ (Only.refl _ _)
      refine startL [10, 11] (fun w' => Only (fun b => False) w5 w') (by kernel_rfl) (by rw [hwd]; exact Only.refl _ _) (fun hHeld => ?_)
      rw [hwd] at hHeld ⊢
      clear hwd
      have e0 := (RS.o.blw HBL.o).get t htl2
      rw [Hgs.o.1, Hgs.o.2] at e0
      obtain ⟨s_q, a_q, n_q, c_q, t_q, h_q⟩ := (Fd.o.blw HBL.o)
      have d0q := t_q.cell0
      have d1q := t_q.cell1
      have Vq := hZ h_q
      have hlR := (RS.o.blw HBL.o).lt
      have hlD := t_q.lt
      clear t_q h_q
      refine pP 0 48 (v := ?_) rfl rfl ?_ ?_
      rotate_left
      ·(intro w; go_simp; first | done | with_reducible rfl)
      simp only [sX1, sX2, sX3]
      refine pP 1 49 (v := ?_) rfl rfl ?_ ?_
      rotate_left
      ·(intro w; go_simp; first | done | with_reducible rfl)
      simp only [sX1, sX2, sX3]
      refine pP 2 50 (v := ?_) rfl rfl ?_ ?_
      rotate_left
      ·(intro w; go_simp; first | done | with_reducible rfl)
      simp only [sX1, sX2, sX3]
      refine pP 3 51 (v := ?_) rfl rfl ?_ ?_
      rotate_left
      ·(intro w; go_simp; first | done | with_reducible rfl)
      simp only [sX1, sX2, sX3]
      refine tP 4 52 (v := ?_) rfl rfl ?_ ?_
      rotate_left
      ·(intro w hSw; have x0 := (hSw.cell (p := ⟨R, t, none⟩) (fun h => h) hlR).trans e0; go_simp; first | done | with_reducible rfl)
      simp only [sX1, sX2, sX3]
      refine pP 5 53 (v := ?_) rfl rfl ?_ ?_
      rotate_left
      ·(intro w; go_simp; first | done | with_reducible rfl)
      simp only [sX1, sX2, sX3]
      refine tP 6 54 (v := ?_) rfl rfl ?_ ?_
      rotate_left
      ·(intro w hSw; have x0 := (hSw.cell (p := ⟨bd, 0, none⟩) (fun h => h) hlD).trans d0q; have x1 := (hSw.cell (p := ⟨bd, 1, none⟩) (fun h => h) hlD).trans d1q; go_simp; first | done | with_reducible rfl)
      simp only [sX1, sX2, sX3]
      refine pP 7 55 (v := ?_) rfl rfl ?_ ?_
      rotate_left
      ·(intro w; go_simp; first | done | with_reducible rfl)
      simp only [sX1, sX2, sX3]
      clear e0 d0q d1q hlR hlD
      refine stepL 8 (by kernel_rfl) rfl (fun K hK => ?_)
      go_simp
      obtain ⟨hrw, hrl⟩ := (RS.o.blw HBL.o).rows.row t htl2
      rw [Hgs.o.1] at hrw
      have hcap := (RS.o.rows.cap t htl2)
      rw [Hgs.o.2] at hcap
      have hWO : WOf w5 (.slice (some ⟨gs, 0, none⟩) ps.length cs) sq2[t] := by have := hrw.of_ (c := cs) (by rw [hrl]; exact hcap.1) hcap.2; rwa [hrl] at this
      have HX := hZ (extend_any _ _ sq2[t] w5 B M0.length n fr l M d hWO (by rw [hrl]; omega) (KL.o.blw HBL.o) (by omega) (by omega) (by omega) (by omega) Vq.o hd0 hfr hn2 (Hbq.o _ (List.getElem_mem _)) SM.o Sd.o)
      rw [hrl, HNN.o, hl64] at HX
      clear hWO hrw hrl hcap
      refine HX.o.mono ?_
      rintro e w6 ⟨g, rfl, hr9, hge, hB⟩
      clear HX
      have Rr := hZ hr9
      replace HBr := oT HBr hB
      have HGg : Hid (∀ i (hi : i < gl.length), gl[i].1 < g) := hZ (fun i hi => Nat.lt_of_lt_of_le (RI.o.lt i hi) hge)
      replace RI := hZ (RI.o.blw hB)
      replace Wp := hZ (Wp.o.blw hB)
      replace Vq := hZ (Vq.o.blw hB)
      replace HBL := bT HBL hB
      clear hB
      clear hr9 hge
      clear Vq
      have hft9 : f + (t - f) = t := by omega
      have hH9 := HHa.o (t - f) htm (by omega)
      simp only [hft9] at hH9
      rw [← hH9] at Rr
      clear hH9 hft9
      refine hK.out _ _ HBr.o (fun hHeld => ?_)
      clear hK K
      try simp only [Act.put, sX1, sX2, sX3]
      refine stepL 9 (by kernel_rfl) rfl (fun K hK => ?_)
      go_simp
      obtain ⟨w7, hw⟩ : ∃ w', w6.alloc (.cells #[.slice (some ⟨g, 0, none⟩) N N] 55) = w' := ⟨_, rfl⟩
      have hB := aB hw
      obtain ⟨gs9, hg9⟩ : ∃ g, w6.heap.size = g := ⟨_, rfl⟩
      have On' : Hid (One w7 gs9 55 (.slice (some ⟨g, 0, none⟩) N N)) := hZ (by rw [← hw, ← hg9]; exact One.new _ _ _)
      replace HBr := oT HBr hB
      try rw [hw]
      try rw [hg9]
      replace RI := hZ (RI.o.blw hB)
      replace Wp := hZ (Wp.o.blw hB)
      replace Rr := hZ (Rr.o.blw hB)
      replace HBL := bT HBL hB
      clear hB
      have On := On'
      clear On' hw hg9
      refine hK.out _ _ HBr.o (fun hHeld => ?_)
      clear hK K
      try simp only [Act.put, sX1, sX2, sX3]
      refine lateL 10 (by kernel_rfl) (by decide) rfl (fun K hK => ?_)
      refine step_ownN rfl 58 rfl _ _ 47 rfl WB.heap.size 55 i0 _ 1 24 Try.underlying47 Hi.o Hz0.o Hz1.o Hz2.o rfl (by decide) (by intro u hu x; simp [Value.cells] at hu; subst hu; intro e; cases e) _ gl.length (gl.map (rwC N)) rfl Wp.o ⟨gs9, 0, none⟩ 1 1 [.slice (some ⟨g, 0, none⟩) N N] rfl rfl ?_ (by simp [Value.oneCell']) (by intro u hu x; simp at hu; subst hu; intro e; cases e) (by decide) (by unfold maxLen; have := HG.o; omega) (by have := HG.o; omega) HBL.o.size ?_
      ·intro j u hu
       match j, hu with
       | 0, hu => simp at hu; subst hu; exact On.o.cell
       | j + 1, hu => simp at hu
      intro v5 w5' hown hon
      have hN : ∀ b, (Value.slice pa gl.length pc).ownBlock = some b → NoInt w7 b := Wp.o.2
      obtain ⟨w8, rfl⟩ : ∃ w' : World, w' = w5' := ⟨_, rfl⟩
      replace RI := hZ (RI.o.only hon hN (fun i hi e => own_ne_row Wp.o e (RI.o.row i hi).1 rfl))
      replace Rr := hZ (Rr.o.only hon hN (fun e => own_ne_row Wp.o e Rr.o rfl))
      replace HBL := hZ (below_only HBL.o hon (fun b e => (Wp.o.lt b e).1) HBL.o.size)
      replace Wp := hZ hown
      clear hon hown hN On
      refine hK.out _ _ ?_
      clear hK K
      try simp only [Act.put, sX1, sX2, sX3]
      refine pP 11 10 (v := ?_) rfl rfl ?_ ?_
      rotate_left
      ·(intro w; go_simp; first | done | with_reducible rfl)
      simp only [sX1, sX2, sX3]
      refine doneL (by kernel_rfl) ?_ _
      clear hHeld
      go_wp2_with fail
      go_roundw
      case rel => exact ⟨t + 1, gl ++ [(g, N)], by omega, by omega, by go_num, hZ (by have := HG.o; simp; omega), hZ (by have h1 := Wp.o; rw [List.length_append, List.map_append]; exact h1), hZ (by rw [show t + 1 - f = t - f + 1 by omega, List.take_succ_eq_append_getElem htm]; exact RI.o.snoc Rr.o (by rw [HHn.o _ (List.getElem_mem _), HNN.o]) (fun i hi => by have := HGg.o i hi; omega) (Nat.le_refl _) (by omega)), HBL⟩
      case measure => simp [intOf]; omega
     ·skip
      have s1 : ¬ (t : Int) < (ps.length : Int) := by omega
      have Htt : Hid (t - f = Hm.length) := hZ (by have := HHl.o; omega)
      go_wp2_with fail
      go_ret
      have h1 := RI.o
      rw [List.take_of_length_le (by have := Htt.o; omega)] at h1
      exact ⟨_, Hm, rfl, WMat.of_own Wp.o h1, HHn.o, HHs.o, by have := HHl.o; omega, HH.o, HB.o.trans (HBL.o.mono HB.o.size)⟩
  ·skip
   obtain rfl : f = ps.length := by omega
   have HN := hZ (HEL.o.norm0 HZ.o (fr := fr) (fun p hp => by obtain ⟨q, hq, rfl⟩ := List.mem_iff_getElem.1 hp; exact HF.o q hq hq))
   go_wp2_with fail
   go_ret
   exact ⟨_, [], rfl, SliceOf.nil _ _ (by omega), by simp, by simp, by simp, HN.o, HB.o⟩
end Go.Proofs.Ytlmbebbdamgfpaa
