/- lattice.eliminate's operate. -/
import Derived.Test.YtlmbebbdamgfpaaQULRow
set_option linter.unusedVariables false
set_option linter.unusedSimpArgs false
set_option linter.unusedVariables false
set_option linter.unusedSimpArgs false
namespace Go.Proofs.Ytlmbebbdamgfpaa
open Go.RowKit

/-- what operate makes of a row -/
def oprL (h f d : Int) (zs ps : List Int) : List Int := List.zipWith (fun r p => (h * r - f * p) / d) zs ps
theorem oprL_len {h f d : Int} {zs ps : List Int} {n : Nat} (h1 : zs.length = n) (h2 : ps.length = n) : (oprL h f d zs ps).length = n := by simp [oprL, h1, h2]
theorem oprL_at {h f d : Int} {zs ps : List Int} {j : Nat} (h1 : j < (oprL h f d zs ps).length) (h2 : j < zs.length) (h3 : j < ps.length) : (oprL h f d zs ps)[j] = (h * zs[j] - f * ps[j]) / d := by simp [oprL]

set_option maxRecDepth 100000 in
set_option maxHeartbeats 8000000 in
theorem operate_any (w0 : World) (g gp bc bh bp bd n c cp col : Nat) (zs ps : List Int) (h f d : Int) (hr : WRow w0 g zs) (hp : WRow w0 gp ps) (hzs : zs.length = n) (hps : ps.length = n) (hn : n ≤ 1000) (hc : n ≤ c) (hc2 : c ≤ 9223372036854775807) (hcp : n ≤ cp) (hcp2 : cp ≤ 9223372036854775807) (hcol : col < n) (hf : zs[col]'(by omega) = f)
 (oc : One w0 bc 3 (.int .i64 col)) (fh : Bx w0 bh h) (op : One w0 bp 55 (.slice (some ⟨gp, 0, none⟩) n cp)) (fd : Bx w0 bd d) (hd : d ≠ 0) (hne : gp ≠ g ∧ bc ≠ g ∧ bh ≠ g ∧ bp ≠ g ∧ bd ≠ g)
 (szs : ∀ x ∈ zs, Sz 4000 x) (sps : ∀ x ∈ ps, Sz 4000 x) (sh : Sz 4000 h) (sd : Sz 4000 d) :
 Calls Try.prog 74 #[.slice (some ⟨g, 0, none⟩) n c, .pointer (some ⟨bc, 0, none⟩), .pointer (some ⟨bh, 0, none⟩), .pointer (some ⟨bp, 0, none⟩), .pointer (some ⟨bd, 0, none⟩)] w0 fun e w' => (∃ v, e = .returned v) ∧ WRow w' g (oprL h f d zs ps) ∧ Only (fun b => b = g) w0 w' := by
 have Rr := hZ hr
 have Rp := hZ hp
 have Oc := hZ oc
 have Fh := hZ fh
 have Op := hZ op
 have Fd := hZ fd
 have HO := hZ (Only.refl (fun b => b = g) w0)
 have Hsz0 : Hid (w0.heap.size ≤ w0.heap.size) := hZ (Nat.le_refl _)
 have Hlt0 : Hid (g < w0.heap.size ∧ gp < w0.heap.size ∧ bc < w0.heap.size ∧ bh < w0.heap.size ∧ bp < w0.heap.size ∧ bd < w0.heap.size) := hZ ⟨hr.lt, hp.lt, oc.lt, fh.lt, op.lt, fd.lt⟩
 have Hne := hZ hne
 have SZ := hZ szs
 have SP := hZ sps
 have Sh := hZ sh
 have Sd := hZ sd
 have Hzs := hZ hzs
 have Hps := hZ hps
 have Sf : Hid (Sz 4000 f) := hZ (hf ▸ szs _ (List.getElem_mem _))
 have HTl := hZ (oprL_len (h := h) (f := f) (d := d) hzs hps)
 have hcolz : col < zs.length := by omega
 have i1 : (0 : Int) ≤ (col : Int) := by omega
 have i2 : (col : Int) < (n : Int) := by omega
 clear hr hp oc fh op fd hne szs sps sh sd
 obtain ⟨s_f, a_f, n_f, c_f, d0f, d1f, h_f⟩ := Rr.o.get col hcolz
 rw [hf] at h_f
 have Vf := hZ h_f
 clear h_f
 have dc := Oc.o.cell
 obtain ⟨w1, hw⟩ : ∃ w', (w0.alloc (.cells #[.bool s_f, .slice a_f n_f c_f] 58)) = w' := ⟨_, rfl⟩
 have hB := aB hw
 obtain ⟨bf, hb_bf⟩ : ∃ b, w0.heap.size = b := ⟨_, rfl⟩
 have h9 := Bx.new (w := w0) Vf.o
 rw [hw, hb_bf] at h9
 have Ff' := hZ h9
 have hge_bf : w0.heap.size ≤ bf := by omega
 clear h9
 replace Rr := hZ (Rr.o.blw hB)
 replace Rp := hZ (Rp.o.blw hB)
 replace Oc := hZ (Oc.o.blw hB)
 replace Fh := hZ (Fh.o.blw hB)
 replace Op := hZ (Op.o.blw hB)
 replace Fd := hZ (Fd.o.blw hB)
 replace Vf := hZ (Vf.o.blw hB)
 replace HO := hZ (HO.o.blw hB)
 have Ff := Ff'
 clear Ff'
 clear hB
 go_enter Try.func74, Try.ntmps74
 go_wp2_with fail
 clear hw hb_bf
 clear dc d0f d1f
 clear Vf
 have Hbf : Hid (w0.heap.size ≤ bf) := hZ hge_bf
 clear hge_bf hcolz i1 i2 hzs hps hf
 go_loopw [15] (fun i wr => ∃ j : Nat, j ≤ n ∧ i = .int .i64 j ∧ Hid (WRow wr g ((oprL h f d zs ps).take j ++ zs.drop j)) ∧ Hid (WRow wr gp ps) ∧ Hid (One wr bc 3 (.int .i64 col)) ∧ Hid (Bx wr bh h) ∧ Hid (One wr bp 55 (.slice (some ⟨gp, 0, none⟩) n cp)) ∧ Hid (Bx wr bd d) ∧ Hid (Bx wr bf f) ∧ Hid (Only (fun b => b = g) w0 wr)) (fun i _ => n - (intOf i).toNat)
 case atStart => exact ⟨0, by omega, rfl, hZ (by simpa using Rr.o), Rp, Oc, Fh, Op, Fd, Ff, HO⟩
 case round =>
  clear Rr Rp Oc Fh Op Fd Ff HO
  obtain ⟨j, hj, rfl, Rr, Rp, Oc, Fh, Op, Fd, Ff, HO⟩ := hrel
  obtain ⟨w1, rfl⟩ : ∃ w' : World, w' = wr := ⟨_, rfl⟩
  by_cases hlt : j < n
  ·skip
   have i1 : (0 : Int) ≤ (j : Int) := by omega
   have i2 : (j : Int) < (n : Int) := by omega
   have Hjz : Hid (j < zs.length) := hZ (by have := Hzs.o; omega)
   have Hjp : Hid (j < ps.length) := hZ (by have := Hps.o; omega)
   have Htl : Hid ((oprL h f d zs ps).length = zs.length) := hZ (by have := HTl.o; have := Hzs.o; omega)
   have Hjr : Hid (j < ((oprL h f d zs ps).take j ++ zs.drop j).length) := hZ (by rw [td_len Htl.o (by have := Hjz.o; omega)]; exact Hjz.o)
   obtain ⟨s_r, a_r, n_r, c_r, d0r, d1r, h_r⟩ := Rr.o.get j Hjr.o
   rw [td_at Htl.o Hjz.o] at h_r
   have Vr := hZ h_r
   clear h_r
   obtain ⟨r, hr⟩ : ∃ r, zs[j]'Hjz.o = r := ⟨_, rfl⟩
   have Hr := hZ hr
   have Sr : Hid (Sz 4000 r) := hZ (hr ▸ SZ.o _ (List.getElem_mem _))
   rw [hr] at Vr
   clear hr
   go_wp2_with fail
   clear d0r d1r
   clear Vr
   refine wp_join (fun t ds a w' => ∃ v18 v19 v20 v21 v22 v23 be, a = ⟨((((((t.setIfInBounds 8 (.pointer (some ⟨be, 0, none⟩))).setIfInBounds 18 v18).setIfInBounds 19 v19).setIfInBounds 20 v20).setIfInBounds 21 v21).setIfInBounds 22 v22).setIfInBounds 23 v23, ds⟩ ∧ Hid (Bx w' be (h * r)) ∧ Hid (Below w1.heap.size w1 w') ∧ Hid (w1.heap.size ≤ be)) ?_ ?_
   ·skip
    have HJ := hZ (Below.refl w1.heap.size w1)
    have Hszj : Hid (w1.heap.size ≤ w1.heap.size) := hZ (Nat.le_refl _)
    obtain ⟨w2, hwd⟩ : ∃ w', w1.drew = w' := ⟨_, rfl⟩
    have hB := dB hwd
    replace Rr := hZ (Rr.o.blw hB)
    replace Rp := hZ (Rp.o.blw hB)
    replace Oc := hZ (Oc.o.blw hB)
    replace Fh := hZ (Fh.o.blw hB)
    replace Op := hZ (Op.o.blw hB)
    replace Fd := hZ (Fd.o.blw hB)
    replace Ff := hZ (Ff.o.blw hB)
    replace HJ := bT HJ hB
    replace HO := hZ (HO.o.blw hB)
    clear hB
    have HBr : Hid (Only (fun b => False) w2 w2) := hZ (Only.refl _ _)
    refine startL [7] (fun w' => Only (fun b => False) w2 w') (by kernel_rfl) (by rw [hwd]; exact Only.refl _ _) (fun hHeld => ?_)
    rw [hwd] at hHeld ⊢
    clear hwd
    obtain ⟨s_r, a_r, n_r, c_r, d0r, d1r, h_r⟩ := Rr.o.get j Hjr.o
    rw [td_at Htl.o Hjz.o, Hr.o] at h_r
    have Vr := hZ h_r
    clear h_r
    obtain ⟨s_h, a_h, n_h, c_h, t_h, h_h⟩ := Fh.o
    have d0h := t_h.cell0
    have d1h := t_h.cell1
    have Vh := hZ h_h
    clear t_h h_h
    refine tP 0 18 (v := ?_) rfl rfl ?_ ?_
    rotate_left
    ·(intro w hSw; have x0 := (hSw.cell (p := ⟨bh, 0, none⟩) (fun h => h) Fh.o.lt).trans d0h; have x1 := (hSw.cell (p := ⟨bh, 1, none⟩) (fun h => h) Fh.o.lt).trans d1h; go_simp; first | done | with_reducible rfl)
    simp only [sX1, sX2, sX3]
    refine tP 1 19 (v := ?_) rfl rfl ?_ ?_
    rotate_left
    ·(intro w hSw; go_simp; first | done | with_reducible rfl)
    simp only [sX1, sX2, sX3]
    refine tP 2 20 (v := ?_) rfl rfl ?_ ?_
    rotate_left
    ·(intro w hSw; go_simp; first | done | with_reducible rfl)
    simp only [sX1, sX2, sX3]
    refine tP 3 21 (v := ?_) rfl rfl ?_ ?_
    rotate_left
    ·(intro w hSw; go_simp; first | done | with_reducible rfl)
    simp only [sX1, sX2, sX3]
    refine tP 4 22 (v := ?_) rfl rfl ?_ ?_
    rotate_left
    ·(intro w hSw; have x0 := (hSw.cell (p := ⟨g, j * 2, none⟩) (fun h => h) Rr.o.lt).trans d0r; have x1 := (hSw.cell (p := ⟨g, j * 2 + 1, none⟩) (fun h => h) Rr.o.lt).trans d1r; go_simp; first | done | with_reducible rfl)
    simp only [sX1, sX2, sX3]
    clear d0r d1r
    clear d0h d1h
    have HJs : Hid (w1.heap.size ≤ w2.heap.size) := hZ HJ.o.size
    have HOs : Hid (w0.heap.size ≤ w2.heap.size) := hZ HO.o.size
    have Hlt1 : Hid (g < w2.heap.size ∧ gp < w2.heap.size ∧ bc < w2.heap.size ∧ bh < w2.heap.size ∧ bp < w2.heap.size ∧ bd < w2.heap.size ∧ bf < w2.heap.size) := hZ ⟨Rr.o.lt, Rp.o.lt, Oc.o.lt, Fh.o.lt, Op.o.lt, Fd.o.lt, Ff.o.lt⟩
    refine forkL [5, 6] (by kernel_rfl) (by simp) ⟨forkOneL 5 rfl (fun K hK => ?_), forkOneL 6 rfl (fun K hK => ?_), trivial⟩
    ·skip
     go_simp
     refine (times_b (w := w2) Vh.o Vr.o Sh.o Sr.o (by omega)).mono ?_
     rintro e w3 ⟨s_t, a_t, n_t, c_t, rfl, h_t, hB⟩
     have Vt := hZ h_t
     replace HBr := oT HBr hB
     replace Rr := hZ (Rr.o.blw hB)
     replace Rp := hZ (Rp.o.blw hB)
     replace Oc := hZ (Oc.o.blw hB)
     replace Fh := hZ (Fh.o.blw hB)
     replace Op := hZ (Op.o.blw hB)
     replace Fd := hZ (Fd.o.blw hB)
     replace Ff := hZ (Ff.o.blw hB)
     replace Vr := hZ (Vr.o.blw hB)
     replace Vh := hZ (Vh.o.blw hB)
     replace HJ := bT HJ hB
     replace HO := hZ (HO.o.blw hB)
     clear hB
     clear h_t
     refine hK.out _ _ HBr.o (fun hHeld => ?_)
     clear hK K
     try simp only [Act.put, sX1, sX2, sX3]
     refine stepL 6 (by kernel_rfl) rfl (fun K hK => ?_)
     go_simp
     obtain ⟨w4, hw⟩ : ∃ w', w3.alloc (.cells #[.bool false, .slice none 0 0] 58) = w' := ⟨_, rfl⟩
     have hB := aB hw
     obtain ⟨be, hb⟩ : ∃ b, w3.heap.size = b := ⟨_, rfl⟩
     have Fe' : Hid (Bx w4 be 0) := hZ (by rw [← hw, ← hb]; exact Bx.new (wint_zero _))
     have hge_be : w2.heap.size ≤ be := by rw [← hb]; exact HBr.o.size
     replace HBr := oT HBr hB
     replace Rr := hZ (Rr.o.blw hB)
     replace Rp := hZ (Rp.o.blw hB)
     replace Oc := hZ (Oc.o.blw hB)
     replace Fh := hZ (Fh.o.blw hB)
     replace Op := hZ (Op.o.blw hB)
     replace Fd := hZ (Fd.o.blw hB)
     replace Ff := hZ (Ff.o.blw hB)
     replace Vr := hZ (Vr.o.blw hB)
     replace Vh := hZ (Vh.o.blw hB)
     replace Vt := hZ (Vt.o.blw hB)
     replace HJ := bT HJ hB
     replace HO := hZ (HO.o.blw hB)
     clear hB
     have Fe := Fe'
     clear Fe'
     rw [hw]
     try rw [hb]
     clear hw hb
     refine hK.out _ _ HBr.o (fun hHeld => ?_)
     clear hK K
     try simp only [Act.put, sX1, sX2, sX3]
     obtain ⟨s_9, a_9, n_9, c_9, t_9, -⟩ := Fe.o
     have e0 := t_9.cell0
     have e1 := t_9.cell1
     have e2 := t_9.frozen 0
     have e3 := t_9.frozen 1
     clear t_9
     have hn9 : NoInt w4 (be) := Fe.o.noInt
     obtain ⟨w5, hw⟩ : ∃ w', (w4.setCell ⟨be, 0, none⟩ (.bool s_t)).setCell ⟨be, 1, none⟩ (.slice a_t n_t c_t) = w' := ⟨_, rfl⟩
     have hw2 : st2 w4 (be) (0) (1) s_t a_t n_t c_t = w5 := hw
     replace Fe := hZ (Bx.put Fe.o Vt.o)
     rw [hw2] at Fe
     replace Rr := hZ (Rr.o.offe hw2 hn9 (by have := Hlt1.o; omega))
     replace Rp := hZ (Rp.o.offe hw2 hn9 (by have := Hlt1.o; omega))
     replace Oc := hZ (Oc.o.offe hw2 (by have := Hlt1.o; omega))
     replace Fh := hZ (Fh.o.offe hw2 hn9 (by have := Hlt1.o; omega))
     replace Op := hZ (Op.o.offe hw2 (by have := Hlt1.o; omega))
     replace Fd := hZ (Fd.o.offe hw2 hn9 (by have := Hlt1.o; omega))
     replace Ff := hZ (Ff.o.offe hw2 hn9 (by have := Hlt1.o; omega))
     replace Vr := hZ (Vr.o.offe hw2 hn9)
     replace Vh := hZ (Vh.o.offe hw2 hn9)
     replace Vt := hZ (Vt.o.offe hw2 hn9)
     replace HJ := hZ (bO hw2 HJ.o (by have := HJs.o; omega))
     replace HO := hZ (HO.o.offe hw2 (Or.inr (by have := HOs.o; omega)))
     clear hw2 hn9
     refine lateL 7 (by kernel_rfl) (by decide) rfl (fun K hK => ?_)
     go_simp
     try rw [hw]
     refine hK.out _ _ ?_
     clear hK K
     try simp only [Act.put, sX1, sX2, sX3]
     clear hw e0 e1 e2 e3
     refine doneL (by kernel_rfl) ?_ _
     clear hHeld
     refine joinQ_normal ⟨_, _, _, _, _, _, _, by first | rfl | (simp only [sX1, sX2, sX3]; rfl), Fe, HJ, hZ (by have := HJs.o; omega)⟩
    ·skip
     go_simp
     obtain ⟨w3, hw⟩ : ∃ w', w2.alloc (.cells #[.bool false, .slice none 0 0] 58) = w' := ⟨_, rfl⟩
     have hB := aB hw
     obtain ⟨be, hb⟩ : ∃ b, w2.heap.size = b := ⟨_, rfl⟩
     have Fe' : Hid (Bx w3 be 0) := hZ (by rw [← hw, ← hb]; exact Bx.new (wint_zero _))
     have hge_be : w2.heap.size ≤ be := by rw [← hb]; exact HBr.o.size
     replace HBr := oT HBr hB
     replace Rr := hZ (Rr.o.blw hB)
     replace Rp := hZ (Rp.o.blw hB)
     replace Oc := hZ (Oc.o.blw hB)
     replace Fh := hZ (Fh.o.blw hB)
     replace Op := hZ (Op.o.blw hB)
     replace Fd := hZ (Fd.o.blw hB)
     replace Ff := hZ (Ff.o.blw hB)
     replace Vr := hZ (Vr.o.blw hB)
     replace Vh := hZ (Vh.o.blw hB)
     replace HJ := bT HJ hB
     replace HO := hZ (HO.o.blw hB)
     clear hB
     have Fe := Fe'
     clear Fe'
     rw [hw]
     try rw [hb]
     clear hw hb
     refine hK.out _ _ HBr.o (fun hHeld => ?_)
     clear hK K
     try simp only [Act.put, sX1, sX2, sX3]
     refine stepL 5 (by kernel_rfl) rfl (fun K hK => ?_)
     go_simp
     refine (times_b (w := w3) Vh.o Vr.o Sh.o Sr.o (by omega)).mono ?_
     rintro e w4 ⟨s_t, a_t, n_t, c_t, rfl, h_t, hB⟩
     have Vt := hZ h_t
     replace HBr := oT HBr hB
     replace Rr := hZ (Rr.o.blw hB)
     replace Rp := hZ (Rp.o.blw hB)
     replace Oc := hZ (Oc.o.blw hB)
     replace Fh := hZ (Fh.o.blw hB)
     replace Op := hZ (Op.o.blw hB)
     replace Fd := hZ (Fd.o.blw hB)
     replace Ff := hZ (Ff.o.blw hB)
     replace Vr := hZ (Vr.o.blw hB)
     replace Vh := hZ (Vh.o.blw hB)
     replace Fe := hZ (Fe.o.blw hB)
     replace HJ := bT HJ hB
     replace HO := hZ (HO.o.blw hB)
     clear hB
     clear h_t
     refine hK.out _ _ HBr.o (fun hHeld => ?_)
     clear hK K
     try simp only [Act.put, sX1, sX2, sX3]
     obtain ⟨s_9, a_9, n_9, c_9, t_9, -⟩ := Fe.o
     have e0 := t_9.cell0
     have e1 := t_9.cell1
     have e2 := t_9.frozen 0
     have e3 := t_9.frozen 1
     clear t_9
     have hn9 : NoInt w4 (be) := Fe.o.noInt
     obtain ⟨w5, hw⟩ : ∃ w', (w4.setCell ⟨be, 0, none⟩ (.bool s_t)).setCell ⟨be, 1, none⟩ (.slice a_t n_t c_t) = w' := ⟨_, rfl⟩
     have hw2 : st2 w4 (be) (0) (1) s_t a_t n_t c_t = w5 := hw
     replace Fe := hZ (Bx.put Fe.o Vt.o)
     rw [hw2] at Fe
     replace Rr := hZ (Rr.o.offe hw2 hn9 (by have := Hlt1.o; omega))
     replace Rp := hZ (Rp.o.offe hw2 hn9 (by have := Hlt1.o; omega))
     replace Oc := hZ (Oc.o.offe hw2 (by have := Hlt1.o; omega))
     replace Fh := hZ (Fh.o.offe hw2 hn9 (by have := Hlt1.o; omega))
     replace Op := hZ (Op.o.offe hw2 (by have := Hlt1.o; omega))
     replace Fd := hZ (Fd.o.offe hw2 hn9 (by have := Hlt1.o; omega))
     replace Ff := hZ (Ff.o.offe hw2 hn9 (by have := Hlt1.o; omega))
     replace Vr := hZ (Vr.o.offe hw2 hn9)
     replace Vh := hZ (Vh.o.offe hw2 hn9)
     replace Vt := hZ (Vt.o.offe hw2 hn9)
     replace HJ := hZ (bO hw2 HJ.o (by have := HJs.o; omega))
     replace HO := hZ (HO.o.offe hw2 (Or.inr (by have := HOs.o; omega)))
     clear hw2 hn9
     refine lateL 7 (by kernel_rfl) (by decide) rfl (fun K hK => ?_)
     go_simp
     try rw [hw]
     refine hK.out _ _ ?_
     clear hK K
     try simp only [Act.put, sX1, sX2, sX3]
     clear hw e0 e1 e2 e3
     refine doneL (by kernel_rfl) ?_ _
     clear hHeld
     refine joinQ_normal ⟨_, _, _, _, _, _, _, by first | rfl | (simp only [sX1, sX2, sX3]; rfl), Fe, HJ, hZ (by have := HJs.o; omega)⟩
   ·skip
    rintro a w2 ⟨v18, v19, v20, v21, v22, v23, be, rfl, Fe, HJ, Hge⟩
    simp only [sX1, sX2, sX3]
    have Hlt1 : Hid (g < be ∧ gp < be ∧ bc < be ∧ bh < be ∧ bp < be ∧ bd < be ∧ bf < be ∧ w0.heap.size ≤ be) := hZ (by have h1 := Hge.o; have h2 := Rr.o.lt; have h3 := Rp.o.lt; have h4 := Oc.o.lt; have h5 := Fh.o.lt; have h6 := Op.o.lt; have h7 := Fd.o.lt; have h8 := Ff.o.lt; have h9 := HO.o.size; omega)
    have hB := HJ.o
    clear HJ Hge
    replace Rr := hZ (Rr.o.blw hB)
    replace Rp := hZ (Rp.o.blw hB)
    replace Oc := hZ (Oc.o.blw hB)
    replace Fh := hZ (Fh.o.blw hB)
    replace Op := hZ (Op.o.blw hB)
    replace Fd := hZ (Fd.o.blw hB)
    replace Ff := hZ (Ff.o.blw hB)
    replace HO := hZ (HO.o.blw hB)
    clear hB
    obtain ⟨s_f, a_f, n_f, c_f, t_f, h_f⟩ := Ff.o
    have d0f := t_f.cell0
    have d1f := t_f.cell1
    have Vf := hZ h_f
    clear t_f h_f
    go_wp2_with fail
    by_cases hf0 : f = 0
    ·skip
     obtain ⟨p, hp⟩ : ∃ p, ps[j]'Hjp.o = p := ⟨_, rfl⟩
     have Hp := hZ hp
     have Sp : Hid (Sz 4000 p) := hZ (hp ▸ SP.o _ (List.getElem_mem _))
     clear hp
     refine (sign_b (w := w2) Vf.o Sf.o (by omega)).mono ?_
     rintro e w3 ⟨he, hB⟩
     rw [show cmp3 f 0 = 0 by rw [hf0]; exact cmp3_eq 0] at he
     subst he
     replace Rr := hZ (Rr.o.blw hB)
     replace Rp := hZ (Rp.o.blw hB)
     replace Oc := hZ (Oc.o.blw hB)
     replace Fh := hZ (Fh.o.blw hB)
     replace Op := hZ (Op.o.blw hB)
     replace Fd := hZ (Fd.o.blw hB)
     replace Ff := hZ (Ff.o.blw hB)
     replace Fe := hZ (Fe.o.blw hB)
     replace Vf := hZ (Vf.o.blw hB)
     replace HO := hZ (HO.o.blw hB)
     clear hB
     clear d0f d1f
     clear Vf
     obtain ⟨E, hE⟩ : ∃ E, h * r - f * p = E := ⟨_, rfl⟩
     replace Fe : Hid (Bx w3 be E) := hZ (by have h1 := Fe.o; rw [← hE]; rw [hf0]; simp only [Int.zero_mul, Int.sub_zero]; exact h1)
     have HE := hZ hE
     clear hE
     have SE : Hid (Sz 8001 E) := hZ (by rw [← HE.o]; exact (Sh.o.mul Sr.o).sub (Sf.o.mul Sp.o))
     obtain ⟨s_e, a_e, n_e, c_e, t_e, h_e⟩ := Fe.o
     have d0e := t_e.cell0
     have d1e := t_e.cell1
     have Ve := hZ h_e
     clear t_e h_e
     go_wp2_with fail
     clear d0e d1e
     by_cases hE0 : E = 0
     ·skip
      refine (sign_b (w := w3) Ve.o SE.o (by omega)).mono ?_
      rintro e w4 ⟨he, hB⟩
      rw [show cmp3 E 0 = 0 by rw [hE0]; exact cmp3_eq 0] at he
      subst he
      replace Rr := hZ (Rr.o.blw hB)
      replace Rp := hZ (Rp.o.blw hB)
      replace Oc := hZ (Oc.o.blw hB)
      replace Fh := hZ (Fh.o.blw hB)
      replace Op := hZ (Op.o.blw hB)
      replace Fd := hZ (Fd.o.blw hB)
      replace Ff := hZ (Ff.o.blw hB)
      replace Fe := hZ (Fe.o.blw hB)
      replace Ve := hZ (Ve.o.blw hB)
      replace HO := hZ (HO.o.blw hB)
      clear hB
      clear Ve
      obtain ⟨s_v, a_v, n_v, c_v, t_v, h_v⟩ := Fe.o
      have d0v := t_v.cell0
      have d1v := t_v.cell1
      have Vv := hZ h_v
      clear t_v h_v
      obtain ⟨s_9, a_9, n_9, c_9, e0, e1, -⟩ := Rr.o.get (j) Hjr.o
      have e2 := Rr.o.frozen (j * 2)
      have e3 := Rr.o.frozen (j * 2 + 1)
      have hn9 : NoInt w4 (g) := Rr.o.noInt
      obtain ⟨w5, hw⟩ : ∃ w', (w4.setCell ⟨g, j * 2, none⟩ (.bool s_v)).setCell ⟨g, j * 2 + 1, none⟩ (.slice a_v n_v c_v) = w' := ⟨_, rfl⟩
      have hw2 : st2 w4 (g) (j * 2) (j * 2 + 1) s_v a_v n_v c_v = w5 := hw
      replace Rr := hZ (WRow.put' Rr.o (j) Hjr.o Vv.o)
      rw [hw2] at Rr
      replace Rp := hZ (Rp.o.offe hw2 hn9 (by have := Hne.o; have := Hlt1.o; have := Hbf.o; have := Hlt0.o; omega))
      replace Oc := hZ (Oc.o.offe hw2 (by have := Hne.o; have := Hlt1.o; have := Hbf.o; have := Hlt0.o; omega))
      replace Fh := hZ (Fh.o.offe hw2 hn9 (by have := Hne.o; have := Hlt1.o; have := Hbf.o; have := Hlt0.o; omega))
      replace Op := hZ (Op.o.offe hw2 (by have := Hne.o; have := Hlt1.o; have := Hbf.o; have := Hlt0.o; omega))
      replace Fd := hZ (Fd.o.offe hw2 hn9 (by have := Hne.o; have := Hlt1.o; have := Hbf.o; have := Hlt0.o; omega))
      replace Ff := hZ (Ff.o.offe hw2 hn9 (by have := Hne.o; have := Hlt1.o; have := Hbf.o; have := Hlt0.o; omega))
      replace Fe := hZ (Fe.o.offe hw2 hn9 (by have := Hne.o; have := Hlt1.o; have := Hbf.o; have := Hlt0.o; omega))
      replace Vv := hZ (Vv.o.offe hw2 hn9)
      replace HO := hZ (HO.o.offe hw2 (Or.inl rfl))
      clear hw2 hn9
      go_wp2_with fail
      clear d0v d1v
      clear hw e0 e1 e2 e3
      have hz : (oprL h f d zs ps)[j]'(by have := HTl.o; omega) = E := by rw [oprL_at _ Hjz.o Hjp.o, Hr.o, Hp.o, HE.o]; rw [hE0]; simp
      replace Rr : Hid (WRow w5 g ((oprL h f d zs ps).take (j + 1) ++ zs.drop (j + 1))) := hZ (by have h1 := Rr.o; rw [← hz, td_set Htl.o Hjz.o] at h1; exact h1)
      clear hz
      go_roundw
      case rel => exact ⟨j + 1, by omega, by go_num, Rr, Rp, Oc, Fh, Op, Fd, Ff, HO⟩
      case measure => simp [intOf]; omega
     ·skip
      refine (sign_b (w := w3) Ve.o SE.o (by omega)).mono ?_
      rintro e w4 ⟨he, hB⟩
      obtain ⟨sge, hs9, q0e, q1e⟩ := cmp3_nz (x := E) hE0
      rw [hs9] at he
      subst he
      clear hs9
      replace Rr := hZ (Rr.o.blw hB)
      replace Rp := hZ (Rp.o.blw hB)
      replace Oc := hZ (Oc.o.blw hB)
      replace Fh := hZ (Fh.o.blw hB)
      replace Op := hZ (Op.o.blw hB)
      replace Fd := hZ (Fd.o.blw hB)
      replace Ff := hZ (Ff.o.blw hB)
      replace Fe := hZ (Fe.o.blw hB)
      replace Ve := hZ (Ve.o.blw hB)
      replace HO := hZ (HO.o.blw hB)
      clear hB
      clear Ve
      obtain ⟨s_e, a_e, n_e, c_e, t_e, h_e⟩ := Fe.o
      have d0e := t_e.cell0
      have d1e := t_e.cell1
      have Ve := hZ h_e
      clear t_e h_e
      obtain ⟨s_d, a_d, n_d, c_d, t_d, h_d⟩ := Fd.o
      have d0d := t_d.cell0
      have d1d := t_d.cell1
      have Vd := hZ h_d
      clear t_d h_d
      go_wp2_with fail
      clear d0e d1e d0d d1d
      clear q0e q1e
      refine (over_b (w := w4) Ve.o Vd.o SE.o Sd.o hd (by omega) (by omega)).mono ?_
      rintro e w5 ⟨s_q, a_q, n_q, c_q, rfl, h_q, hB⟩
      have Vq := hZ h_q
      replace Rr := hZ (Rr.o.blw hB)
      replace Rp := hZ (Rp.o.blw hB)
      replace Oc := hZ (Oc.o.blw hB)
      replace Fh := hZ (Fh.o.blw hB)
      replace Op := hZ (Op.o.blw hB)
      replace Fd := hZ (Fd.o.blw hB)
      replace Ff := hZ (Ff.o.blw hB)
      replace Fe := hZ (Fe.o.blw hB)
      replace Ve := hZ (Ve.o.blw hB)
      replace Vd := hZ (Vd.o.blw hB)
      replace HO := hZ (HO.o.blw hB)
      clear hB
      clear h_q
      obtain ⟨s_9, a_9, n_9, c_9, t_9, -⟩ := Fe.o
      have e0A := t_9.cell0
      have e1A := t_9.cell1
      have e2A := t_9.frozen 0
      have e3A := t_9.frozen 1
      clear t_9
      have hn9 : NoInt w5 (be) := Fe.o.noInt
      obtain ⟨w6, hwA⟩ : ∃ w', (w5.setCell ⟨be, 0, none⟩ (.bool s_q)).setCell ⟨be, 1, none⟩ (.slice a_q n_q c_q) = w' := ⟨_, rfl⟩
      have hw2 : st2 w5 (be) (0) (1) s_q a_q n_q c_q = w6 := hwA
      replace Fe := hZ (Bx.put Fe.o Vq.o)
      rw [hw2] at Fe
      replace Rr := hZ (Rr.o.offe hw2 hn9 (by have := Hlt1.o; omega))
      replace Rp := hZ (Rp.o.offe hw2 hn9 (by have := Hlt1.o; omega))
      replace Oc := hZ (Oc.o.offe hw2 (by have := Hlt1.o; omega))
      replace Fh := hZ (Fh.o.offe hw2 hn9 (by have := Hlt1.o; omega))
      replace Op := hZ (Op.o.offe hw2 (by have := Hlt1.o; omega))
      replace Fd := hZ (Fd.o.offe hw2 hn9 (by have := Hlt1.o; omega))
      replace Ff := hZ (Ff.o.offe hw2 hn9 (by have := Hlt1.o; omega))
      replace Ve := hZ (Ve.o.offe hw2 hn9)
      replace Vd := hZ (Vd.o.offe hw2 hn9)
      replace Vq := hZ (Vq.o.offe hw2 hn9)
      replace HO := hZ (HO.o.offe hw2 (Or.inr (by have := Hlt1.o; omega)))
      clear hw2 hn9
      obtain ⟨s_v, a_v, n_v, c_v, t_v, h_v⟩ := Fe.o
      have d0v := t_v.cell0
      have d1v := t_v.cell1
      have Vv := hZ h_v
      clear t_v h_v
      obtain ⟨s_9, a_9, n_9, c_9, e0B, e1B, -⟩ := Rr.o.get (j) Hjr.o
      have e2B := Rr.o.frozen (j * 2)
      have e3B := Rr.o.frozen (j * 2 + 1)
      have hn9 : NoInt w6 (g) := Rr.o.noInt
      obtain ⟨w7, hwB⟩ : ∃ w', (w6.setCell ⟨g, j * 2, none⟩ (.bool s_v)).setCell ⟨g, j * 2 + 1, none⟩ (.slice a_v n_v c_v) = w' := ⟨_, rfl⟩
      have hw2 : st2 w6 (g) (j * 2) (j * 2 + 1) s_v a_v n_v c_v = w7 := hwB
      replace Rr := hZ (WRow.put' Rr.o (j) Hjr.o Vv.o)
      rw [hw2] at Rr
      replace Rp := hZ (Rp.o.offe hw2 hn9 (by have := Hne.o; have := Hlt1.o; have := Hbf.o; have := Hlt0.o; omega))
      replace Oc := hZ (Oc.o.offe hw2 (by have := Hne.o; have := Hlt1.o; have := Hbf.o; have := Hlt0.o; omega))
      replace Fh := hZ (Fh.o.offe hw2 hn9 (by have := Hne.o; have := Hlt1.o; have := Hbf.o; have := Hlt0.o; omega))
      replace Op := hZ (Op.o.offe hw2 (by have := Hne.o; have := Hlt1.o; have := Hbf.o; have := Hlt0.o; omega))
      replace Fd := hZ (Fd.o.offe hw2 hn9 (by have := Hne.o; have := Hlt1.o; have := Hbf.o; have := Hlt0.o; omega))
      replace Ff := hZ (Ff.o.offe hw2 hn9 (by have := Hne.o; have := Hlt1.o; have := Hbf.o; have := Hlt0.o; omega))
      replace Fe := hZ (Fe.o.offe hw2 hn9 (by have := Hne.o; have := Hlt1.o; have := Hbf.o; have := Hlt0.o; omega))
      replace Ve := hZ (Ve.o.offe hw2 hn9)
      replace Vd := hZ (Vd.o.offe hw2 hn9)
      replace Vq := hZ (Vq.o.offe hw2 hn9)
      replace Vv := hZ (Vv.o.offe hw2 hn9)
      replace HO := hZ (HO.o.offe hw2 (Or.inl rfl))
      clear hw2 hn9
      go_wp2_with fail
      clear d0v d1v
      clear hwA e0A e1A e2A e3A hwB e0B e1B e2B e3B
      have hz : (oprL h f d zs ps)[j]'(by have := HTl.o; omega) = E / d := by rw [oprL_at _ Hjz.o Hjp.o, Hr.o, Hp.o, HE.o]
      replace Rr : Hid (WRow w7 g ((oprL h f d zs ps).take (j + 1) ++ zs.drop (j + 1))) := hZ (by have h1 := Rr.o; rw [← hz, td_set Htl.o Hjz.o] at h1; exact h1)
      clear hz
      go_roundw
      case rel => exact ⟨j + 1, by omega, by go_num, Rr, Rp, Oc, Fh, Op, Fd, Ff, HO⟩
      case measure => simp [intOf]; omega
    ·skip
     obtain ⟨p, hp⟩ : ∃ p, ps[j]'Hjp.o = p := ⟨_, rfl⟩
     have Hp := hZ hp
     have Sp : Hid (Sz 4000 p) := hZ (hp ▸ SP.o _ (List.getElem_mem _))
     refine (sign_b (w := w2) Vf.o Sf.o (by omega)).mono ?_
     rintro e w3 ⟨he, hB⟩
     obtain ⟨sgf, hs9, q0f, q1f⟩ := cmp3_nz (x := f) hf0
     rw [hs9] at he
     subst he
     clear hs9
     replace Rr := hZ (Rr.o.blw hB)
     replace Rp := hZ (Rp.o.blw hB)
     replace Oc := hZ (Oc.o.blw hB)
     replace Fh := hZ (Fh.o.blw hB)
     replace Op := hZ (Op.o.blw hB)
     replace Fd := hZ (Fd.o.blw hB)
     replace Ff := hZ (Ff.o.blw hB)
     replace Fe := hZ (Fe.o.blw hB)
     replace Vf := hZ (Vf.o.blw hB)
     replace HO := hZ (HO.o.blw hB)
     clear hB
     clear d0f d1f
     clear Vf
     obtain ⟨s_p, a_p, n_p, c_p, d0p, d1p, h_p⟩ := Rp.o.get j Hjp.o
     rw [hp] at h_p
     have Vp := hZ h_p
     clear h_p hp
     have dop := Op.o.cell
     go_wp2_with fail
     clear q0f q1f d0p d1p dop
     by_cases hp0 : p = 0
     ·skip
      refine (sign_b (w := w3) Vp.o Sp.o (by omega)).mono ?_
      rintro e w4 ⟨he, hB⟩
      rw [show cmp3 p 0 = 0 by rw [hp0]; exact cmp3_eq 0] at he
      subst he
      replace Rr := hZ (Rr.o.blw hB)
      replace Rp := hZ (Rp.o.blw hB)
      replace Oc := hZ (Oc.o.blw hB)
      replace Fh := hZ (Fh.o.blw hB)
      replace Op := hZ (Op.o.blw hB)
      replace Fd := hZ (Fd.o.blw hB)
      replace Ff := hZ (Ff.o.blw hB)
      replace Fe := hZ (Fe.o.blw hB)
      replace Vp := hZ (Vp.o.blw hB)
      replace HO := hZ (HO.o.blw hB)
      clear hB
      clear Vp
      obtain ⟨E, hE⟩ : ∃ E, h * r - f * p = E := ⟨_, rfl⟩
      replace Fe : Hid (Bx w4 be E) := hZ (by have h1 := Fe.o; rw [← hE]; rw [hp0]; simp only [Int.mul_zero, Int.sub_zero]; exact h1)
      have HE := hZ hE
      clear hE
      have SE : Hid (Sz 8001 E) := hZ (by rw [← HE.o]; exact (Sh.o.mul Sr.o).sub (Sf.o.mul Sp.o))
      obtain ⟨s_e, a_e, n_e, c_e, t_e, h_e⟩ := Fe.o
      have d0e := t_e.cell0
      have d1e := t_e.cell1
      have Ve := hZ h_e
      clear t_e h_e
      go_wp2_with fail
      clear d0e d1e
      by_cases hE0 : E = 0
      ·skip
       refine (sign_b (w := w4) Ve.o SE.o (by omega)).mono ?_
       rintro e w5 ⟨he, hB⟩
       rw [show cmp3 E 0 = 0 by rw [hE0]; exact cmp3_eq 0] at he
       subst he
       replace Rr := hZ (Rr.o.blw hB)
       replace Rp := hZ (Rp.o.blw hB)
       replace Oc := hZ (Oc.o.blw hB)
       replace Fh := hZ (Fh.o.blw hB)
       replace Op := hZ (Op.o.blw hB)
       replace Fd := hZ (Fd.o.blw hB)
       replace Ff := hZ (Ff.o.blw hB)
       replace Fe := hZ (Fe.o.blw hB)
       replace Ve := hZ (Ve.o.blw hB)
       replace HO := hZ (HO.o.blw hB)
       clear hB
       clear Ve
       obtain ⟨s_v, a_v, n_v, c_v, t_v, h_v⟩ := Fe.o
       have d0v := t_v.cell0
       have d1v := t_v.cell1
       have Vv := hZ h_v
       clear t_v h_v
       obtain ⟨s_9, a_9, n_9, c_9, e0, e1, -⟩ := Rr.o.get (j) Hjr.o
       have e2 := Rr.o.frozen (j * 2)
       have e3 := Rr.o.frozen (j * 2 + 1)
       have hn9 : NoInt w5 (g) := Rr.o.noInt
       obtain ⟨w6, hw⟩ : ∃ w', (w5.setCell ⟨g, j * 2, none⟩ (.bool s_v)).setCell ⟨g, j * 2 + 1, none⟩ (.slice a_v n_v c_v) = w' := ⟨_, rfl⟩
       have hw2 : st2 w5 (g) (j * 2) (j * 2 + 1) s_v a_v n_v c_v = w6 := hw
       replace Rr := hZ (WRow.put' Rr.o (j) Hjr.o Vv.o)
       rw [hw2] at Rr
       replace Rp := hZ (Rp.o.offe hw2 hn9 (by have := Hne.o; have := Hlt1.o; have := Hbf.o; have := Hlt0.o; omega))
       replace Oc := hZ (Oc.o.offe hw2 (by have := Hne.o; have := Hlt1.o; have := Hbf.o; have := Hlt0.o; omega))
       replace Fh := hZ (Fh.o.offe hw2 hn9 (by have := Hne.o; have := Hlt1.o; have := Hbf.o; have := Hlt0.o; omega))
       replace Op := hZ (Op.o.offe hw2 (by have := Hne.o; have := Hlt1.o; have := Hbf.o; have := Hlt0.o; omega))
       replace Fd := hZ (Fd.o.offe hw2 hn9 (by have := Hne.o; have := Hlt1.o; have := Hbf.o; have := Hlt0.o; omega))
       replace Ff := hZ (Ff.o.offe hw2 hn9 (by have := Hne.o; have := Hlt1.o; have := Hbf.o; have := Hlt0.o; omega))
       replace Fe := hZ (Fe.o.offe hw2 hn9 (by have := Hne.o; have := Hlt1.o; have := Hbf.o; have := Hlt0.o; omega))
       replace Vv := hZ (Vv.o.offe hw2 hn9)
       replace HO := hZ (HO.o.offe hw2 (Or.inl rfl))
       clear hw2 hn9
       go_wp2_with fail
       clear d0v d1v
       clear hw e0 e1 e2 e3
       have hz : (oprL h f d zs ps)[j]'(by have := HTl.o; omega) = E := by rw [oprL_at _ Hjz.o Hjp.o, Hr.o, Hp.o, HE.o]; rw [hE0]; simp
       replace Rr : Hid (WRow w6 g ((oprL h f d zs ps).take (j + 1) ++ zs.drop (j + 1))) := hZ (by have h1 := Rr.o; rw [← hz, td_set Htl.o Hjz.o] at h1; exact h1)
       clear hz
       go_roundw
       case rel => exact ⟨j + 1, by omega, by go_num, Rr, Rp, Oc, Fh, Op, Fd, Ff, HO⟩
       case measure => simp [intOf]; omega
      ·skip
       refine (sign_b (w := w4) Ve.o SE.o (by omega)).mono ?_
       rintro e w5 ⟨he, hB⟩
       obtain ⟨sge, hs9, q0e, q1e⟩ := cmp3_nz (x := E) hE0
       rw [hs9] at he
       subst he
       clear hs9
       replace Rr := hZ (Rr.o.blw hB)
       replace Rp := hZ (Rp.o.blw hB)
       replace Oc := hZ (Oc.o.blw hB)
       replace Fh := hZ (Fh.o.blw hB)
       replace Op := hZ (Op.o.blw hB)
       replace Fd := hZ (Fd.o.blw hB)
       replace Ff := hZ (Ff.o.blw hB)
       replace Fe := hZ (Fe.o.blw hB)
       replace Ve := hZ (Ve.o.blw hB)
       replace HO := hZ (HO.o.blw hB)
       clear hB
       clear Ve
       obtain ⟨s_e, a_e, n_e, c_e, t_e, h_e⟩ := Fe.o
       have d0e := t_e.cell0
       have d1e := t_e.cell1
       have Ve := hZ h_e
       clear t_e h_e
       obtain ⟨s_d, a_d, n_d, c_d, t_d, h_d⟩ := Fd.o
       have d0d := t_d.cell0
       have d1d := t_d.cell1
       have Vd := hZ h_d
       clear t_d h_d
       go_wp2_with fail
       clear d0e d1e d0d d1d
       clear q0e q1e
       refine (over_b (w := w5) Ve.o Vd.o SE.o Sd.o hd (by omega) (by omega)).mono ?_
       rintro e w6 ⟨s_q, a_q, n_q, c_q, rfl, h_q, hB⟩
       have Vq := hZ h_q
       replace Rr := hZ (Rr.o.blw hB)
       replace Rp := hZ (Rp.o.blw hB)
       replace Oc := hZ (Oc.o.blw hB)
       replace Fh := hZ (Fh.o.blw hB)
       replace Op := hZ (Op.o.blw hB)
       replace Fd := hZ (Fd.o.blw hB)
       replace Ff := hZ (Ff.o.blw hB)
       replace Fe := hZ (Fe.o.blw hB)
       replace Ve := hZ (Ve.o.blw hB)
       replace Vd := hZ (Vd.o.blw hB)
       replace HO := hZ (HO.o.blw hB)
       clear hB
       clear h_q
       obtain ⟨s_9, a_9, n_9, c_9, t_9, -⟩ := Fe.o
       have e0A := t_9.cell0
       have e1A := t_9.cell1
       have e2A := t_9.frozen 0
       have e3A := t_9.frozen 1
       clear t_9
       have hn9 : NoInt w6 (be) := Fe.o.noInt
       obtain ⟨w7, hwA⟩ : ∃ w', (w6.setCell ⟨be, 0, none⟩ (.bool s_q)).setCell ⟨be, 1, none⟩ (.slice a_q n_q c_q) = w' := ⟨_, rfl⟩
       have hw2 : st2 w6 (be) (0) (1) s_q a_q n_q c_q = w7 := hwA
       replace Fe := hZ (Bx.put Fe.o Vq.o)
       rw [hw2] at Fe
       replace Rr := hZ (Rr.o.offe hw2 hn9 (by have := Hlt1.o; omega))
       replace Rp := hZ (Rp.o.offe hw2 hn9 (by have := Hlt1.o; omega))
       replace Oc := hZ (Oc.o.offe hw2 (by have := Hlt1.o; omega))
       replace Fh := hZ (Fh.o.offe hw2 hn9 (by have := Hlt1.o; omega))
       replace Op := hZ (Op.o.offe hw2 (by have := Hlt1.o; omega))
       replace Fd := hZ (Fd.o.offe hw2 hn9 (by have := Hlt1.o; omega))
       replace Ff := hZ (Ff.o.offe hw2 hn9 (by have := Hlt1.o; omega))
       replace Ve := hZ (Ve.o.offe hw2 hn9)
       replace Vd := hZ (Vd.o.offe hw2 hn9)
       replace Vq := hZ (Vq.o.offe hw2 hn9)
       replace HO := hZ (HO.o.offe hw2 (Or.inr (by have := Hlt1.o; omega)))
       clear hw2 hn9
       obtain ⟨s_v, a_v, n_v, c_v, t_v, h_v⟩ := Fe.o
       have d0v := t_v.cell0
       have d1v := t_v.cell1
       have Vv := hZ h_v
       clear t_v h_v
       obtain ⟨s_9, a_9, n_9, c_9, e0B, e1B, -⟩ := Rr.o.get (j) Hjr.o
       have e2B := Rr.o.frozen (j * 2)
       have e3B := Rr.o.frozen (j * 2 + 1)
       have hn9 : NoInt w7 (g) := Rr.o.noInt
       obtain ⟨w8, hwB⟩ : ∃ w', (w7.setCell ⟨g, j * 2, none⟩ (.bool s_v)).setCell ⟨g, j * 2 + 1, none⟩ (.slice a_v n_v c_v) = w' := ⟨_, rfl⟩
       have hw2 : st2 w7 (g) (j * 2) (j * 2 + 1) s_v a_v n_v c_v = w8 := hwB
       replace Rr := hZ (WRow.put' Rr.o (j) Hjr.o Vv.o)
       rw [hw2] at Rr
       replace Rp := hZ (Rp.o.offe hw2 hn9 (by have := Hne.o; have := Hlt1.o; have := Hbf.o; have := Hlt0.o; omega))
       replace Oc := hZ (Oc.o.offe hw2 (by have := Hne.o; have := Hlt1.o; have := Hbf.o; have := Hlt0.o; omega))
       replace Fh := hZ (Fh.o.offe hw2 hn9 (by have := Hne.o; have := Hlt1.o; have := Hbf.o; have := Hlt0.o; omega))
       replace Op := hZ (Op.o.offe hw2 (by have := Hne.o; have := Hlt1.o; have := Hbf.o; have := Hlt0.o; omega))
       replace Fd := hZ (Fd.o.offe hw2 hn9 (by have := Hne.o; have := Hlt1.o; have := Hbf.o; have := Hlt0.o; omega))
       replace Ff := hZ (Ff.o.offe hw2 hn9 (by have := Hne.o; have := Hlt1.o; have := Hbf.o; have := Hlt0.o; omega))
       replace Fe := hZ (Fe.o.offe hw2 hn9 (by have := Hne.o; have := Hlt1.o; have := Hbf.o; have := Hlt0.o; omega))
       replace Ve := hZ (Ve.o.offe hw2 hn9)
       replace Vd := hZ (Vd.o.offe hw2 hn9)
       replace Vq := hZ (Vq.o.offe hw2 hn9)
       replace Vv := hZ (Vv.o.offe hw2 hn9)
       replace HO := hZ (HO.o.offe hw2 (Or.inl rfl))
       clear hw2 hn9
       go_wp2_with fail
       clear d0v d1v
       clear hwA e0A e1A e2A e3A hwB e0B e1B e2B e3B
       have hz : (oprL h f d zs ps)[j]'(by have := HTl.o; omega) = E / d := by rw [oprL_at _ Hjz.o Hjp.o, Hr.o, Hp.o, HE.o]
       replace Rr : Hid (WRow w8 g ((oprL h f d zs ps).take (j + 1) ++ zs.drop (j + 1))) := hZ (by have h1 := Rr.o; rw [← hz, td_set Htl.o Hjz.o] at h1; exact h1)
       clear hz
       go_roundw
       case rel => exact ⟨j + 1, by omega, by go_num, Rr, Rp, Oc, Fh, Op, Fd, Ff, HO⟩
       case measure => simp [intOf]; omega
     ·skip
      refine (sign_b (w := w3) Vp.o Sp.o (by omega)).mono ?_
      rintro e w4 ⟨he, hB⟩
      obtain ⟨sgp, hs9, q0p, q1p⟩ := cmp3_nz (x := p) hp0
      rw [hs9] at he
      subst he
      clear hs9
      replace Rr := hZ (Rr.o.blw hB)
      replace Rp := hZ (Rp.o.blw hB)
      replace Oc := hZ (Oc.o.blw hB)
      replace Fh := hZ (Fh.o.blw hB)
      replace Op := hZ (Op.o.blw hB)
      replace Fd := hZ (Fd.o.blw hB)
      replace Ff := hZ (Ff.o.blw hB)
      replace Fe := hZ (Fe.o.blw hB)
      replace Vp := hZ (Vp.o.blw hB)
      replace HO := hZ (HO.o.blw hB)
      clear hB
      clear Vp
      go_wp2_with fail
      clear q0p q1p
      obtain ⟨w5, hwd⟩ : ∃ w', w4.drew = w' := ⟨_, rfl⟩
      have hB := dB hwd
      replace Rr := hZ (Rr.o.blw hB)
      replace Rp := hZ (Rp.o.blw hB)
      replace Oc := hZ (Oc.o.blw hB)
      replace Fh := hZ (Fh.o.blw hB)
      replace Op := hZ (Op.o.blw hB)
      replace Fd := hZ (Fd.o.blw hB)
      replace Ff := hZ (Ff.o.blw hB)
      replace Fe := hZ (Fe.o.blw hB)
      replace HO := hZ (HO.o.blw hB)
      clear hB
      have HBr : Hid (Only (fun b => False) w5 w5) := hZ (Only.refl _ _)
      refine startL [8] (fun w' => Only (fun b => False) w5 w') (by kernel_rfl) (by rw [hwd]; exact Only.refl _ _) (fun hHeld => ?_)
      rw [hwd] at hHeld ⊢
      clear hwd
      obtain ⟨s_e, a_e, n_e, c_e, t_e, h_e⟩ := Fe.o
      have d0e := t_e.cell0
      have d1e := t_e.cell1
      have Ve := hZ h_e
      clear t_e h_e
      obtain ⟨s_f, a_f, n_f, c_f, t_f, h_f⟩ := Ff.o
      have d0f := t_f.cell0
      have d1f := t_f.cell1
      have Vf := hZ h_f
      clear t_f h_f
      have dop := Op.o.cell
      obtain ⟨s_p, a_p, n_p, c_p, d0p, d1p, h_p⟩ := Rp.o.get j Hjp.o
      rw [Hp.o] at h_p
      have Vp := hZ h_p
      clear h_p
      refine tP 0 35 (v := ?_) rfl rfl ?_ ?_
      rotate_left
      ·(intro w hSw; have x0 := (hSw.cell (p := ⟨be, 0, none⟩) (fun h => h) Fe.o.lt).trans d0e; have x1 := (hSw.cell (p := ⟨be, 1, none⟩) (fun h => h) Fe.o.lt).trans d1e; go_simp; first | done | with_reducible rfl)
      simp only [sX1, sX2, sX3]
      refine tP 1 36 (v := ?_) rfl rfl ?_ ?_
      rotate_left
      ·(intro w hSw; have x0 := (hSw.cell (p := ⟨bf, 0, none⟩) (fun h => h) Ff.o.lt).trans d0f; have x1 := (hSw.cell (p := ⟨bf, 1, none⟩) (fun h => h) Ff.o.lt).trans d1f; go_simp; first | done | with_reducible rfl)
      simp only [sX1, sX2, sX3]
      refine tP 2 37 (v := ?_) rfl rfl ?_ ?_
      rotate_left
      ·(intro w hSw; have x0 := (hSw.cell (p := ⟨bp, 0, none⟩) (fun h => h) Op.o.lt).trans dop; go_simp; first | done | with_reducible rfl)
      simp only [sX1, sX2, sX3]
      refine tP 3 38 (v := ?_) rfl rfl ?_ ?_
      rotate_left
      ·(intro w hSw; go_simp; first | done | with_reducible rfl)
      simp only [sX1, sX2, sX3]
      refine tP 4 39 (v := ?_) rfl rfl ?_ ?_
      rotate_left
      ·(intro w hSw; go_simp; first | done | with_reducible rfl)
      simp only [sX1, sX2, sX3]
      refine tP 5 40 (v := ?_) rfl rfl ?_ ?_
      rotate_left
      ·(intro w hSw; have x0 := (hSw.cell (p := ⟨gp, j * 2, none⟩) (fun h => h) Rp.o.lt).trans d0p; have x1 := (hSw.cell (p := ⟨gp, j * 2 + 1, none⟩) (fun h => h) Rp.o.lt).trans d1p; go_simp; first | done | with_reducible rfl)
      simp only [sX1, sX2, sX3]
      clear d0e d1e d0f d1f
      clear dop d0p d1p
      refine stepL 6 (by kernel_rfl) rfl (fun K hK => ?_)
      go_simp
      refine (times_b (w := w5) Vf.o Vp.o Sf.o Sp.o (by omega)).mono ?_
      rintro e w6 ⟨s_t, a_t, n_t, c_t, rfl, h_t, hB⟩
      have Vt := hZ h_t
      replace HBr := oT HBr hB
      replace Rr := hZ (Rr.o.blw hB)
      replace Rp := hZ (Rp.o.blw hB)
      replace Oc := hZ (Oc.o.blw hB)
      replace Fh := hZ (Fh.o.blw hB)
      replace Op := hZ (Op.o.blw hB)
      replace Fd := hZ (Fd.o.blw hB)
      replace Ff := hZ (Ff.o.blw hB)
      replace Fe := hZ (Fe.o.blw hB)
      replace Ve := hZ (Ve.o.blw hB)
      replace Vf := hZ (Vf.o.blw hB)
      replace Vp := hZ (Vp.o.blw hB)
      replace HO := hZ (HO.o.blw hB)
      clear hB
      clear h_t
      refine hK.out _ _ HBr.o (fun hHeld => ?_)
      clear hK K
      try simp only [Act.put, sX1, sX2, sX3]
      refine stepL 7 (by kernel_rfl) rfl (fun K hK => ?_)
      go_simp
      refine (minus_b (w := w6) (k := 8000) Ve.o Vt.o (Sh.o.mul Sr.o) (Sf.o.mul Sp.o) (by omega)).mono ?_
      rintro e w7 ⟨s_u, a_u, n_u, c_u, rfl, h_u, hB⟩
      have Vu := hZ h_u
      replace HBr := oT HBr hB
      replace Rr := hZ (Rr.o.blw hB)
      replace Rp := hZ (Rp.o.blw hB)
      replace Oc := hZ (Oc.o.blw hB)
      replace Fh := hZ (Fh.o.blw hB)
      replace Op := hZ (Op.o.blw hB)
      replace Fd := hZ (Fd.o.blw hB)
      replace Ff := hZ (Ff.o.blw hB)
      replace Fe := hZ (Fe.o.blw hB)
      replace Ve := hZ (Ve.o.blw hB)
      replace Vf := hZ (Vf.o.blw hB)
      replace Vp := hZ (Vp.o.blw hB)
      replace Vt := hZ (Vt.o.blw hB)
      replace HO := hZ (HO.o.blw hB)
      clear hB
      clear h_u
      refine hK.out _ _ HBr.o (fun hHeld => ?_)
      clear hK K
      try simp only [Act.put, sX1, sX2, sX3]
      obtain ⟨s_9, a_9, n_9, c_9, t_9, -⟩ := Fe.o
      have e0 := t_9.cell0
      have e1 := t_9.cell1
      have e2 := t_9.frozen 0
      have e3 := t_9.frozen 1
      clear t_9
      have hn9 : NoInt w7 (be) := Fe.o.noInt
      obtain ⟨w8, hw⟩ : ∃ w', (w7.setCell ⟨be, 0, none⟩ (.bool s_u)).setCell ⟨be, 1, none⟩ (.slice a_u n_u c_u) = w' := ⟨_, rfl⟩
      have hw2 : st2 w7 (be) (0) (1) s_u a_u n_u c_u = w8 := hw
      replace Fe := hZ (Bx.put Fe.o Vu.o)
      rw [hw2] at Fe
      replace Rr := hZ (Rr.o.offe hw2 hn9 (by have := Hlt1.o; omega))
      replace Rp := hZ (Rp.o.offe hw2 hn9 (by have := Hlt1.o; omega))
      replace Oc := hZ (Oc.o.offe hw2 (by have := Hlt1.o; omega))
      replace Fh := hZ (Fh.o.offe hw2 hn9 (by have := Hlt1.o; omega))
      replace Op := hZ (Op.o.offe hw2 (by have := Hlt1.o; omega))
      replace Fd := hZ (Fd.o.offe hw2 hn9 (by have := Hlt1.o; omega))
      replace Ff := hZ (Ff.o.offe hw2 hn9 (by have := Hlt1.o; omega))
      replace Ve := hZ (Ve.o.offe hw2 hn9)
      replace Vf := hZ (Vf.o.offe hw2 hn9)
      replace Vp := hZ (Vp.o.offe hw2 hn9)
      replace Vt := hZ (Vt.o.offe hw2 hn9)
      replace Vu := hZ (Vu.o.offe hw2 hn9)
      replace HO := hZ (HO.o.offe hw2 (Or.inr (by have := Hlt1.o; omega)))
      clear hw2 hn9
      refine lateL 8 (by kernel_rfl) (by decide) rfl (fun K hK => ?_)
      go_simp
      try rw [hw]
      refine hK.out _ _ ?_
      clear hK K
      try simp only [Act.put, sX1, sX2, sX3]
      clear hw e0 e1 e2 e3
      refine doneL (by kernel_rfl) ?_ _
      clear hHeld
      obtain ⟨E, hE⟩ : ∃ E, h * r - f * p = E := ⟨_, rfl⟩
      replace Fe : Hid (Bx w8 be E) := hZ (by have h1 := Fe.o; rw [← hE]; exact h1)
      have HE := hZ hE
      clear hE
      have SE : Hid (Sz 8001 E) := hZ (by rw [← HE.o]; exact (Sh.o.mul Sr.o).sub (Sf.o.mul Sp.o))
      obtain ⟨s_e, a_e, n_e, c_e, t_e, h_e⟩ := Fe.o
      have d0e := t_e.cell0
      have d1e := t_e.cell1
      have Ve := hZ h_e
      clear t_e h_e
      go_wp2_with fail
      clear d0e d1e
      by_cases hE0 : E = 0
      ·skip
       refine (sign_b (w := w8) Ve.o SE.o (by omega)).mono ?_
       rintro e w9 ⟨he, hB⟩
       rw [show cmp3 E 0 = 0 by rw [hE0]; exact cmp3_eq 0] at he
       subst he
       replace Rr := hZ (Rr.o.blw hB)
       replace Rp := hZ (Rp.o.blw hB)
       replace Oc := hZ (Oc.o.blw hB)
       replace Fh := hZ (Fh.o.blw hB)
       replace Op := hZ (Op.o.blw hB)
       replace Fd := hZ (Fd.o.blw hB)
       replace Ff := hZ (Ff.o.blw hB)
       replace Fe := hZ (Fe.o.blw hB)
       replace Ve := hZ (Ve.o.blw hB)
       replace Vf := hZ (Vf.o.blw hB)
       replace Vp := hZ (Vp.o.blw hB)
       replace Vt := hZ (Vt.o.blw hB)
       replace Vu := hZ (Vu.o.blw hB)
       replace HO := hZ (HO.o.blw hB)
       clear hB
       clear Ve
       obtain ⟨s_v, a_v, n_v, c_v, t_v, h_v⟩ := Fe.o
       have d0v := t_v.cell0
       have d1v := t_v.cell1
       have Vv := hZ h_v
       clear t_v h_v
       obtain ⟨s_9, a_9, n_9, c_9, e0, e1, -⟩ := Rr.o.get (j) Hjr.o
       have e2 := Rr.o.frozen (j * 2)
       have e3 := Rr.o.frozen (j * 2 + 1)
       have hn9 : NoInt w9 (g) := Rr.o.noInt
       obtain ⟨w10, hw⟩ : ∃ w', (w9.setCell ⟨g, j * 2, none⟩ (.bool s_v)).setCell ⟨g, j * 2 + 1, none⟩ (.slice a_v n_v c_v) = w' := ⟨_, rfl⟩
       have hw2 : st2 w9 (g) (j * 2) (j * 2 + 1) s_v a_v n_v c_v = w10 := hw
       replace Rr := hZ (WRow.put' Rr.o (j) Hjr.o Vv.o)
       rw [hw2] at Rr
       replace Rp := hZ (Rp.o.offe hw2 hn9 (by have := Hne.o; have := Hlt1.o; have := Hbf.o; have := Hlt0.o; omega))
       replace Oc := hZ (Oc.o.offe hw2 (by have := Hne.o; have := Hlt1.o; have := Hbf.o; have := Hlt0.o; omega))
       replace Fh := hZ (Fh.o.offe hw2 hn9 (by have := Hne.o; have := Hlt1.o; have := Hbf.o; have := Hlt0.o; omega))
       replace Op := hZ (Op.o.offe hw2 (by have := Hne.o; have := Hlt1.o; have := Hbf.o; have := Hlt0.o; omega))
       replace Fd := hZ (Fd.o.offe hw2 hn9 (by have := Hne.o; have := Hlt1.o; have := Hbf.o; have := Hlt0.o; omega))
       replace Ff := hZ (Ff.o.offe hw2 hn9 (by have := Hne.o; have := Hlt1.o; have := Hbf.o; have := Hlt0.o; omega))
       replace Fe := hZ (Fe.o.offe hw2 hn9 (by have := Hne.o; have := Hlt1.o; have := Hbf.o; have := Hlt0.o; omega))
       replace Vf := hZ (Vf.o.offe hw2 hn9)
       replace Vp := hZ (Vp.o.offe hw2 hn9)
       replace Vt := hZ (Vt.o.offe hw2 hn9)
       replace Vu := hZ (Vu.o.offe hw2 hn9)
       replace Vv := hZ (Vv.o.offe hw2 hn9)
       replace HO := hZ (HO.o.offe hw2 (Or.inl rfl))
       clear hw2 hn9
       go_wp2_with fail
       clear d0v d1v
       clear hw e0 e1 e2 e3
       have hz : (oprL h f d zs ps)[j]'(by have := HTl.o; omega) = E := by rw [oprL_at _ Hjz.o Hjp.o, Hr.o, Hp.o, HE.o]; rw [hE0]; simp
       replace Rr : Hid (WRow w10 g ((oprL h f d zs ps).take (j + 1) ++ zs.drop (j + 1))) := hZ (by have h1 := Rr.o; rw [← hz, td_set Htl.o Hjz.o] at h1; exact h1)
       clear hz
       go_roundw
       case rel => exact ⟨j + 1, by omega, by go_num, Rr, Rp, Oc, Fh, Op, Fd, Ff, HO⟩
       case measure => simp [intOf]; omega
      ·skip
       refine (sign_b (w := w8) Ve.o SE.o (by omega)).mono ?_
       rintro e w9 ⟨he, hB⟩
       obtain ⟨sge, hs9, q0e, q1e⟩ := cmp3_nz (x := E) hE0
       rw [hs9] at he
       subst he
       clear hs9
       replace Rr := hZ (Rr.o.blw hB)
       replace Rp := hZ (Rp.o.blw hB)
       replace Oc := hZ (Oc.o.blw hB)
       replace Fh := hZ (Fh.o.blw hB)
       replace Op := hZ (Op.o.blw hB)
       replace Fd := hZ (Fd.o.blw hB)
       replace Ff := hZ (Ff.o.blw hB)
       replace Fe := hZ (Fe.o.blw hB)
       replace Ve := hZ (Ve.o.blw hB)
       replace Vf := hZ (Vf.o.blw hB)
       replace Vp := hZ (Vp.o.blw hB)
       replace Vt := hZ (Vt.o.blw hB)
       replace Vu := hZ (Vu.o.blw hB)
       replace HO := hZ (HO.o.blw hB)
       clear hB
       clear Ve
       obtain ⟨s_e, a_e, n_e, c_e, t_e, h_e⟩ := Fe.o
       have d0e := t_e.cell0
       have d1e := t_e.cell1
       have Ve := hZ h_e
       clear t_e h_e
       obtain ⟨s_d, a_d, n_d, c_d, t_d, h_d⟩ := Fd.o
       have d0d := t_d.cell0
       have d1d := t_d.cell1
       have Vd := hZ h_d
       clear t_d h_d
       go_wp2_with fail
       clear d0e d1e d0d d1d
       clear q0e q1e
       refine (over_b (w := w9) Ve.o Vd.o SE.o Sd.o hd (by omega) (by omega)).mono ?_
       rintro e w10 ⟨s_q, a_q, n_q, c_q, rfl, h_q, hB⟩
       have Vq := hZ h_q
       replace Rr := hZ (Rr.o.blw hB)
       replace Rp := hZ (Rp.o.blw hB)
       replace Oc := hZ (Oc.o.blw hB)
       replace Fh := hZ (Fh.o.blw hB)
       replace Op := hZ (Op.o.blw hB)
       replace Fd := hZ (Fd.o.blw hB)
       replace Ff := hZ (Ff.o.blw hB)
       replace Fe := hZ (Fe.o.blw hB)
       replace Vf := hZ (Vf.o.blw hB)
       replace Vp := hZ (Vp.o.blw hB)
       replace Vt := hZ (Vt.o.blw hB)
       replace Vu := hZ (Vu.o.blw hB)
       replace Ve := hZ (Ve.o.blw hB)
       replace Vd := hZ (Vd.o.blw hB)
       replace HO := hZ (HO.o.blw hB)
       clear hB
       clear h_q
       obtain ⟨s_9, a_9, n_9, c_9, t_9, -⟩ := Fe.o
       have e0A := t_9.cell0
       have e1A := t_9.cell1
       have e2A := t_9.frozen 0
       have e3A := t_9.frozen 1
       clear t_9
       have hn9 : NoInt w10 (be) := Fe.o.noInt
       obtain ⟨w11, hwA⟩ : ∃ w', (w10.setCell ⟨be, 0, none⟩ (.bool s_q)).setCell ⟨be, 1, none⟩ (.slice a_q n_q c_q) = w' := ⟨_, rfl⟩
       have hw2 : st2 w10 (be) (0) (1) s_q a_q n_q c_q = w11 := hwA
       replace Fe := hZ (Bx.put Fe.o Vq.o)
       rw [hw2] at Fe
       replace Rr := hZ (Rr.o.offe hw2 hn9 (by have := Hlt1.o; omega))
       replace Rp := hZ (Rp.o.offe hw2 hn9 (by have := Hlt1.o; omega))
       replace Oc := hZ (Oc.o.offe hw2 (by have := Hlt1.o; omega))
       replace Fh := hZ (Fh.o.offe hw2 hn9 (by have := Hlt1.o; omega))
       replace Op := hZ (Op.o.offe hw2 (by have := Hlt1.o; omega))
       replace Fd := hZ (Fd.o.offe hw2 hn9 (by have := Hlt1.o; omega))
       replace Ff := hZ (Ff.o.offe hw2 hn9 (by have := Hlt1.o; omega))
       replace Vf := hZ (Vf.o.offe hw2 hn9)
       replace Vp := hZ (Vp.o.offe hw2 hn9)
       replace Vt := hZ (Vt.o.offe hw2 hn9)
       replace Vu := hZ (Vu.o.offe hw2 hn9)
       replace Ve := hZ (Ve.o.offe hw2 hn9)
       replace Vd := hZ (Vd.o.offe hw2 hn9)
       replace Vq := hZ (Vq.o.offe hw2 hn9)
       replace HO := hZ (HO.o.offe hw2 (Or.inr (by have := Hlt1.o; omega)))
       clear hw2 hn9
       obtain ⟨s_v, a_v, n_v, c_v, t_v, h_v⟩ := Fe.o
       have d0v := t_v.cell0
       have d1v := t_v.cell1
       have Vv := hZ h_v
       clear t_v h_v
       obtain ⟨s_9, a_9, n_9, c_9, e0B, e1B, -⟩ := Rr.o.get (j) Hjr.o
       have e2B := Rr.o.frozen (j * 2)
       have e3B := Rr.o.frozen (j * 2 + 1)
       have hn9 : NoInt w11 (g) := Rr.o.noInt
       obtain ⟨w12, hwB⟩ : ∃ w', (w11.setCell ⟨g, j * 2, none⟩ (.bool s_v)).setCell ⟨g, j * 2 + 1, none⟩ (.slice a_v n_v c_v) = w' := ⟨_, rfl⟩
       have hw2 : st2 w11 (g) (j * 2) (j * 2 + 1) s_v a_v n_v c_v = w12 := hwB
       replace Rr := hZ (WRow.put' Rr.o (j) Hjr.o Vv.o)
       rw [hw2] at Rr
       replace Rp := hZ (Rp.o.offe hw2 hn9 (by have := Hne.o; have := Hlt1.o; have := Hbf.o; have := Hlt0.o; omega))
       replace Oc := hZ (Oc.o.offe hw2 (by have := Hne.o; have := Hlt1.o; have := Hbf.o; have := Hlt0.o; omega))
       replace Fh := hZ (Fh.o.offe hw2 hn9 (by have := Hne.o; have := Hlt1.o; have := Hbf.o; have := Hlt0.o; omega))
       replace Op := hZ (Op.o.offe hw2 (by have := Hne.o; have := Hlt1.o; have := Hbf.o; have := Hlt0.o; omega))
       replace Fd := hZ (Fd.o.offe hw2 hn9 (by have := Hne.o; have := Hlt1.o; have := Hbf.o; have := Hlt0.o; omega))
       replace Ff := hZ (Ff.o.offe hw2 hn9 (by have := Hne.o; have := Hlt1.o; have := Hbf.o; have := Hlt0.o; omega))
       replace Fe := hZ (Fe.o.offe hw2 hn9 (by have := Hne.o; have := Hlt1.o; have := Hbf.o; have := Hlt0.o; omega))
       replace Vf := hZ (Vf.o.offe hw2 hn9)
       replace Vp := hZ (Vp.o.offe hw2 hn9)
       replace Vt := hZ (Vt.o.offe hw2 hn9)
       replace Vu := hZ (Vu.o.offe hw2 hn9)
       replace Ve := hZ (Ve.o.offe hw2 hn9)
       replace Vd := hZ (Vd.o.offe hw2 hn9)
       replace Vq := hZ (Vq.o.offe hw2 hn9)
       replace Vv := hZ (Vv.o.offe hw2 hn9)
       replace HO := hZ (HO.o.offe hw2 (Or.inl rfl))
       clear hw2 hn9
       go_wp2_with fail
       clear d0v d1v
       clear hwA e0A e1A e2A e3A hwB e0B e1B e2B e3B
       have hz : (oprL h f d zs ps)[j]'(by have := HTl.o; omega) = E / d := by rw [oprL_at _ Hjz.o Hjp.o, Hr.o, Hp.o, HE.o]
       replace Rr : Hid (WRow w12 g ((oprL h f d zs ps).take (j + 1) ++ zs.drop (j + 1))) := hZ (by have h1 := Rr.o; rw [← hz, td_set Htl.o Hjz.o] at h1; exact h1)
       clear hz
       go_roundw
       case rel => exact ⟨j + 1, by omega, by go_num, Rr, Rp, Oc, Fh, Op, Fd, Ff, HO⟩
       case measure => simp [intOf]; omega
  ·skip
   obtain rfl : j = n := by omega
   replace Rr : Hid (WRow w1 g (oprL h f d zs ps)) := hZ (by have h1 := Rr.o; have h2 := HTl.o; have h3 := Hzs.o; rw [List.take_of_length_le (by omega), List.drop_eq_nil_of_le (by omega), List.append_nil] at h1; exact h1)
   go_wp2_with fail
   go_end0
   exact ⟨⟨_, rfl⟩, Rr.o, HO.o⟩
end Go.Proofs.Ytlmbebbdamgfpaa
