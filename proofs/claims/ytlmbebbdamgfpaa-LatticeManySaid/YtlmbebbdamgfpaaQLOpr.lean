/- lattice.eliminate's operate. -/
import Derived.Test.YtlmbebbdamgfpaaQLRow
set_option linter.unusedVariables false
set_option linter.unusedSimpArgs false
set_option linter.unusedVariables false
set_option linter.unusedSimpArgs false
namespace Go.Proofs.Ytlmbebbdamgfpaa
open Go.RowKit

/-- what operate makes of a row -/
def oprL (h f d : Int) (zs ps : List Int) : List Int := List.zipWith (fun r p => (h * r - f * p) / d) zs ps
theorem oprL_len {h f d : Int} {zs ps : List Int} {n : Nat} (h1 : zs.length = n) (h2 : ps.length = n) : (oprL h f d zs ps).length = n := by simp [oprL, h1, h2]
theorem oprL_at {h f d : Int} {zs ps : List Int} {j : Nat} (h1 : j < (oprL h f d zs ps).length) (h2 : j < zs.length) (h3 : j < ps.length) : (oprL h f d zs ps)[j] = (h * zs[j] - f * ps[j]) / d := by simp [oprL]

set_option maxRecDepth 100000 in
set_option maxHeartbeats 8000000 in
theorem operate_any (w0 : World) (g gp bc bh bp bd n c cp col : Nat) (zs ps : List Int) (h f d : Int) (hr : WRow w0 g zs) (hp : WRow w0 gp ps) (hzs : zs.length = n) (hps : ps.length = n) (hn : n ≤ 1000) (hc : n ≤ c) (hc2 : c ≤ 9223372036854775807) (hcp : n ≤ cp) (hcp2 : cp ≤ 9223372036854775807) (hcol : col < n) (hf : zs[col]'(by omega) = f)
 (oc : One w0 bc 3 (.int .i64 col)) (fh : Bx w0 bh h) (op : One w0 bp 55 (.slice (some ⟨gp, 0, none⟩) n cp)) (fd : Bx w0 bd d) (hd : d ≠ 0) (hne : gp ≠ g ∧ bc ≠ g ∧ bh ≠ g ∧ bp ≠ g ∧ bd ≠ g)
 (szs : ∀ x ∈ zs, Sz 4000 x) (sps : ∀ x ∈ ps, Sz 4000 x) (sh : Sz 4000 h) (sd : Sz 4000 d) :
 Calls Try.prog 74 #[.slice (some ⟨g, 0, none⟩) n c, .pointer (some ⟨bc, 0, none⟩), .pointer (some ⟨bh, 0, none⟩), .pointer (some ⟨bp, 0, none⟩), .pointer (some ⟨bd, 0, none⟩)] w0 fun e w' => (∃ v, e = .returned v) ∧ WRow w' g (oprL h f d zs ps) ∧ Only (fun b => b = g) w0 w' := by
 have Rr := hZ hr
 have Rp := hZ hp
 have Oc := hZ oc
 have Fh := hZ fh
 have Op := hZ op
 have Fd := hZ fd
 have HO := hZ (Only.refl (fun b => b = g) w0)
 have Hsz0 : Hid (w0.heap.size ≤ w0.heap.size) := hZ (Nat.le_refl _)
 have Hlt0 : Hid (g < w0.heap.size ∧ gp < w0.heap.size ∧ bc < w0.heap.size ∧ bh < w0.heap.size ∧ bp < w0.heap.size ∧ bd < w0.heap.size) := hZ ⟨hr.lt, hp.lt, oc.lt, fh.lt, op.lt, fd.lt⟩
 have Hne := hZ hne
 have SZ := hZ szs
 have SP := hZ sps
 have Sh := hZ sh
 have Sd := hZ sd
 have Hzs := hZ hzs
 have Hps := hZ hps
 have Sf : Hid (Sz 4000 f) := hZ (hf ▸ szs _ (List.getElem_mem _))
 have HTl := hZ (oprL_len (h := h) (f := f) (d := d) hzs hps)
 have hcolz : col < zs.length := by omega
 have i1 : (0 : Int) ≤ (col : Int) := by omega
 have i2 : (col : Int) < (n : Int) := by omega
 clear hr hp oc fh op fd hne szs sps sh sd
 obtain ⟨s_f, a_f, n_f, c_f, d0f, d1f, h_f⟩ := Rr.out.get col hcolz
 rw [hf] at h_f
 have Vf := hZ h_f
 clear h_f
 have dc := Oc.out.cell
 obtain ⟨w1, hw⟩ : ∃ w', (w0.alloc (.cells #[.bool s_f, .slice a_f n_f c_f] 58)) = w' := ⟨_, rfl⟩
 have hB : Below w0.heap.size w0 w1 := by rw [← hw]; exact (Below.refl _ _).alloc (Nat.le_refl _) _
 obtain ⟨bf, hb_bf⟩ : ∃ b, w0.heap.size = b := ⟨_, rfl⟩
 have h9 := Bx.new (w := w0) Vf.out
 rw [hw, hb_bf] at h9
 have Ff' := hZ h9
 have hge_bf : w0.heap.size ≤ bf := by omega
 clear h9
 replace Rr := hZ (Rr.out.blw hB)
 replace Rp := hZ (Rp.out.blw hB)
 replace Oc := hZ (Oc.out.blw hB)
 replace Fh := hZ (Fh.out.blw hB)
 replace Op := hZ (Op.out.blw hB)
 replace Fd := hZ (Fd.out.blw hB)
 replace Vf := hZ (Vf.out.blw hB)
 replace HO := hZ (HO.out.blw hB)
 have Ff := Ff'
 clear Ff'
 clear hB
 go_enter Try.func74, Try.ntmps74
 go_wp2_with fail
 clear hw hb_bf
 clear dc d0f d1f
 clear Vf
 have Hbf : Hid (w0.heap.size ≤ bf) := hZ hge_bf
 clear hge_bf hcolz i1 i2 hzs hps hf
 go_loopw [15] (fun i wr => ∃ j : Nat, j ≤ n ∧ i = .int .i64 j ∧ Hid (WRow wr g ((oprL h f d zs ps).take j ++ zs.drop j)) ∧ Hid (WRow wr gp ps) ∧ Hid (One wr bc 3 (.int .i64 col)) ∧ Hid (Bx wr bh h) ∧ Hid (One wr bp 55 (.slice (some ⟨gp, 0, none⟩) n cp)) ∧ Hid (Bx wr bd d) ∧ Hid (Bx wr bf f) ∧ Hid (Only (fun b => b = g) w0 wr)) (fun i _ => n - (intOf i).toNat)
 case atStart => exact ⟨0, by omega, rfl, hZ (by simpa using Rr.out), Rp, Oc, Fh, Op, Fd, Ff, HO⟩
 case round =>
  clear Rr Rp Oc Fh Op Fd Ff HO
  obtain ⟨j, hj, rfl, Rr, Rp, Oc, Fh, Op, Fd, Ff, HO⟩ := hrel
  obtain ⟨w1, rfl⟩ : ∃ w' : World, w' = wr := ⟨_, rfl⟩
  by_cases hlt : j < n
  ·skip
   have i1 : (0 : Int) ≤ (j : Int) := by omega
   have i2 : (j : Int) < (n : Int) := by omega
   have Hjz : Hid (j < zs.length) := hZ (by have := Hzs.out; omega)
   have Hjp : Hid (j < ps.length) := hZ (by have := Hps.out; omega)
   have Htl : Hid ((oprL h f d zs ps).length = zs.length) := hZ (by have := HTl.out; have := Hzs.out; omega)
   have Hjr : Hid (j < ((oprL h f d zs ps).take j ++ zs.drop j).length) := hZ (by rw [td_len Htl.out (by have := Hjz.out; omega)]; exact Hjz.out)
   obtain ⟨s_r, a_r, n_r, c_r, d0r, d1r, h_r⟩ := Rr.out.get j Hjr.out
   rw [td_at Htl.out Hjz.out] at h_r
   have Vr := hZ h_r
   clear h_r
   obtain ⟨r, hr⟩ : ∃ r, zs[j]'Hjz.out = r := ⟨_, rfl⟩
   have Hr := hZ hr
   have Sr : Hid (Sz 4000 r) := hZ (hr ▸ SZ.out _ (List.getElem_mem _))
   rw [hr] at Vr
   clear hr
   go_wp2_with fail
   clear d0r d1r
   clear Vr
   refine wp_join (fun t ds a w' => ∃ v18 v19 v20 v21 v22 v23 be, a = ⟨((((((t.setIfInBounds 8 (.pointer (some ⟨be, 0, none⟩))).setIfInBounds 18 v18).setIfInBounds 19 v19).setIfInBounds 20 v20).setIfInBounds 21 v21).setIfInBounds 22 v22).setIfInBounds 23 v23, ds⟩ ∧ Hid (Bx w' be (h * r)) ∧ Hid (Below w1.heap.size w1 w') ∧ Hid (w1.heap.size ≤ be)) ?_ ?_
   ·skip
    have HJ := hZ (Below.refl w1.heap.size w1)
    have Hszj : Hid (w1.heap.size ≤ w1.heap.size) := hZ (Nat.le_refl _)
    obtain ⟨w2, hwd⟩ : ∃ w', w1.drew = w' := ⟨_, rfl⟩
    have hB : Below w1.heap.size w1 w2 := by rw [← hwd]; exact (Below.refl _ _).drew
    replace Rr := hZ (Rr.out.blw hB)
    replace Rp := hZ (Rp.out.blw hB)
    replace Oc := hZ (Oc.out.blw hB)
    replace Fh := hZ (Fh.out.blw hB)
    replace Op := hZ (Op.out.blw hB)
    replace Fd := hZ (Fd.out.blw hB)
    replace Ff := hZ (Ff.out.blw hB)
    replace HJ := hZ (HJ.out.trans (hB.mono HJ.out.size))
    replace HO := hZ (HO.out.blw hB)
    clear hB
    have HBr : Hid (Only (fun b => False) w2 w2) := hZ (Only.refl _ _)
    refine startL [7] (fun w' => Only (fun b => False) w2 w') (by kernel_rfl) (by rw [hwd]; exact Only.refl _ _) (fun hHeld => ?_)
    rw [hwd] at hHeld ⊢
    clear hwd
    obtain ⟨s_r, a_r, n_r, c_r, d0r, d1r, h_r⟩ := Rr.out.get j Hjr.out
    rw [td_at Htl.out Hjz.out, Hr.out] at h_r
    have Vr := hZ h_r
    clear h_r
    obtain ⟨s_h, a_h, n_h, c_h, t_h, h_h⟩ := Fh.out
    have d0h := t_h.cell0
    have d1h := t_h.cell1
    have Vh := hZ h_h
    clear t_h h_h
    refine takeL 0 18 (v := ?_) rfl rfl (by kernel_rfl) (by kernel_rfl) (by kernel_rfl) (by kernel_rfl) (by kernel_rfl) (fun _ _ _ h => h) (by rfl) ?_ (by assumption) ?_
    rotate_left
    ·(intro w hSw; have x0 := (hSw.cell (p := ⟨bh, 0, none⟩) (fun h => h) Fh.out.lt).trans d0h; have x1 := (hSw.cell (p := ⟨bh, 1, none⟩) (fun h => h) Fh.out.lt).trans d1h; go_simp; first | done | with_reducible rfl)
    simp only [sX1, sX2, sX3]
    refine takeL 1 19 (v := ?_) rfl rfl (by kernel_rfl) (by kernel_rfl) (by kernel_rfl) (by kernel_rfl) (by kernel_rfl) (fun _ _ _ h => h) (by rfl) ?_ (by assumption) ?_
    rotate_left
    ·(intro w hSw; go_simp; first | done | with_reducible rfl)
    simp only [sX1, sX2, sX3]
    refine takeL 2 20 (v := ?_) rfl rfl (by kernel_rfl) (by kernel_rfl) (by kernel_rfl) (by kernel_rfl) (by kernel_rfl) (fun _ _ _ h => h) (by rfl) ?_ (by assumption) ?_
    rotate_left
    ·(intro w hSw; go_simp; first | done | with_reducible rfl)
    simp only [sX1, sX2, sX3]
    refine takeL 3 21 (v := ?_) rfl rfl (by kernel_rfl) (by kernel_rfl) (by kernel_rfl) (by kernel_rfl) (by kernel_rfl) (fun _ _ _ h => h) (by rfl) ?_ (by assumption) ?_
    rotate_left
    ·(intro w hSw; go_simp; first | done | with_reducible rfl)
    simp only [sX1, sX2, sX3]
    refine takeL 4 22 (v := ?_) rfl rfl (by kernel_rfl) (by kernel_rfl) (by kernel_rfl) (by kernel_rfl) (by kernel_rfl) (fun _ _ _ h => h) (by rfl) ?_ (by assumption) ?_
    rotate_left
    ·(intro w hSw; have x0 := (hSw.cell (p := ⟨g, j * 2, none⟩) (fun h => h) Rr.out.lt).trans d0r; have x1 := (hSw.cell (p := ⟨g, j * 2 + 1, none⟩) (fun h => h) Rr.out.lt).trans d1r; go_simp; first | done | with_reducible rfl)
    simp only [sX1, sX2, sX3]
    clear d0r d1r
    clear d0h d1h
    have HJs : Hid (w1.heap.size ≤ w2.heap.size) := hZ HJ.out.size
    have HOs : Hid (w0.heap.size ≤ w2.heap.size) := hZ HO.out.size
    have Hlt1 : Hid (g < w2.heap.size ∧ gp < w2.heap.size ∧ bc < w2.heap.size ∧ bh < w2.heap.size ∧ bp < w2.heap.size ∧ bd < w2.heap.size ∧ bf < w2.heap.size) := hZ ⟨Rr.out.lt, Rp.out.lt, Oc.out.lt, Fh.out.lt, Op.out.lt, Fd.out.lt, Ff.out.lt⟩
    refine forkL [5, 6] (by kernel_rfl) (by simp) ⟨forkOneL 5 rfl (fun K hK => ?_), forkOneL 6 rfl (fun K hK => ?_), trivial⟩
    ·skip
     go_simp
     refine (times_b (w := w2) Vh.out Vr.out Sh.out Sr.out (by omega)).mono ?_
     rintro e w3 ⟨s_t, a_t, n_t, c_t, rfl, h_t, hB⟩
     have Vt := hZ h_t
     replace HBr := hZ (HBr.out.trans (Only.of_below hB))
     replace Rr := hZ (Rr.out.blw hB)
     replace Rp := hZ (Rp.out.blw hB)
     replace Oc := hZ (Oc.out.blw hB)
     replace Fh := hZ (Fh.out.blw hB)
     replace Op := hZ (Op.out.blw hB)
     replace Fd := hZ (Fd.out.blw hB)
     replace Ff := hZ (Ff.out.blw hB)
     replace Vr := hZ (Vr.out.blw hB)
     replace Vh := hZ (Vh.out.blw hB)
     replace HJ := hZ (HJ.out.trans (hB.mono HJ.out.size))
     replace HO := hZ (HO.out.blw hB)
     clear hB
     clear h_t
     refine hK.out _ _ HBr.out (fun hHeld => ?_)
     clear hK K
     try simp only [Act.put, sX1, sX2, sX3]
     refine stepL 6 (by kernel_rfl) rfl (fun K hK => ?_)
     go_simp
     obtain ⟨w4, hw⟩ : ∃ w', w3.alloc (.cells #[.bool false, .slice none 0 0] 58) = w' := ⟨_, rfl⟩
     have hB : Below w3.heap.size w3 w4 := by rw [← hw]; exact (Below.refl _ _).alloc (Nat.le_refl _) _
     obtain ⟨be, hb⟩ : ∃ b, w3.heap.size = b := ⟨_, rfl⟩
     have Fe' : Hid (Bx w4 be 0) := hZ (by rw [← hw, ← hb]; exact Bx.new (wint_zero _))
     have hge_be : w2.heap.size ≤ be := by rw [← hb]; exact HBr.out.size
     replace HBr := hZ (HBr.out.trans (Only.of_below hB))
     replace Rr := hZ (Rr.out.blw hB)
     replace Rp := hZ (Rp.out.blw hB)
     replace Oc := hZ (Oc.out.blw hB)
     replace Fh := hZ (Fh.out.blw hB)
     replace Op := hZ (Op.out.blw hB)
     replace Fd := hZ (Fd.out.blw hB)
     replace Ff := hZ (Ff.out.blw hB)
     replace Vr := hZ (Vr.out.blw hB)
     replace Vh := hZ (Vh.out.blw hB)
     replace Vt := hZ (Vt.out.blw hB)
     replace HJ := hZ (HJ.out.trans (hB.mono HJ.out.size))
     replace HO := hZ (HO.out.blw hB)
     clear hB
     have Fe := Fe'
     clear Fe'
     rw [hw]
     try rw [hb]
     clear hw hb
     refine hK.out _ _ HBr.out (fun hHeld => ?_)
     clear hK K
     try simp only [Act.put, sX1, sX2, sX3]
     obtain ⟨s_9, a_9, n_9, c_9, t_9, -⟩ := Fe.out
     have e0 := t_9.cell0
     have e1 := t_9.cell1
     have e2 := t_9.frozen 0
     have e3 := t_9.frozen 1
     clear t_9
     have hn9 : NoInt w4 (be) := Fe.out.noInt
     obtain ⟨w5, hw⟩ : ∃ w', (w4.setCell ⟨be, 0, none⟩ (.bool s_t)).setCell ⟨be, 1, none⟩ (.slice a_t n_t c_t) = w' := ⟨_, rfl⟩
     have hw2 : st2 w4 (be) (0) (1) s_t a_t n_t c_t = w5 := hw
     replace Fe := hZ (Bx.put Fe.out Vt.out)
     rw [hw2] at Fe
     replace Rr := hZ (Rr.out.offe hw2 hn9 (by have := Hlt1.out; omega))
     replace Rp := hZ (Rp.out.offe hw2 hn9 (by have := Hlt1.out; omega))
     replace Oc := hZ (Oc.out.offe hw2 (by have := Hlt1.out; omega))
     replace Fh := hZ (Fh.out.offe hw2 hn9 (by have := Hlt1.out; omega))
     replace Op := hZ (Op.out.offe hw2 (by have := Hlt1.out; omega))
     replace Fd := hZ (Fd.out.offe hw2 hn9 (by have := Hlt1.out; omega))
     replace Ff := hZ (Ff.out.offe hw2 hn9 (by have := Hlt1.out; omega))
     replace Vr := hZ (Vr.out.offe hw2 hn9)
     replace Vh := hZ (Vh.out.offe hw2 hn9)
     replace Vt := hZ (Vt.out.offe hw2 hn9)
     replace HJ := hZ (below_off (g := be) (o1 := 0) (o2 := 1) (s := s_t) (a := a_t) (n := n_t) (c := c_t) HJ.out (by have := HJs.out; omega))
     rw [hw2] at HJ
     replace HO := hZ (HO.out.offe hw2 (Or.inr (by have := HOs.out; omega)))
     clear hw2 hn9
     refine lateL 7 (by kernel_rfl) (by decide) rfl (fun K hK => ?_)
     go_simp
     try rw [hw]
     refine hK.out _ _ ?_
     clear hK K
     try simp only [Act.put, sX1, sX2, sX3]
     clear hw e0 e1 e2 e3
     refine doneL (by kernel_rfl) ?_ _
     clear hHeld
     refine joinQ_normal ⟨_, _, _, _, _, _, _, by first | rfl | (simp only [sX1, sX2, sX3]; rfl), Fe, HJ, hZ (by have := HJs.out; omega)⟩
    ·skip
     go_simp
     obtain ⟨w3, hw⟩ : ∃ w', w2.alloc (.cells #[.bool false, .slice none 0 0] 58) = w' := ⟨_, rfl⟩
     have hB : Below w2.heap.size w2 w3 := by rw [← hw]; exact (Below.refl _ _).alloc (Nat.le_refl _) _
     obtain ⟨be, hb⟩ : ∃ b, w2.heap.size = b := ⟨_, rfl⟩
     have Fe' : Hid (Bx w3 be 0) := hZ (by rw [← hw, ← hb]; exact Bx.new (wint_zero _))
     have hge_be : w2.heap.size ≤ be := by rw [← hb]; exact HBr.out.size
     replace HBr := hZ (HBr.out.trans (Only.of_below hB))
     replace Rr := hZ (Rr.out.blw hB)
     replace Rp := hZ (Rp.out.blw hB)
     replace Oc := hZ (Oc.out.blw hB)
     replace Fh := hZ (Fh.out.blw hB)
     replace Op := hZ (Op.out.blw hB)
     replace Fd := hZ (Fd.out.blw hB)
     replace Ff := hZ (Ff.out.blw hB)
     replace Vr := hZ (Vr.out.blw hB)
     replace Vh := hZ (Vh.out.blw hB)
     replace HJ := hZ (HJ.out.trans (hB.mono HJ.out.size))
     replace HO := hZ (HO.out.blw hB)
     clear hB
     have Fe := Fe'
     clear Fe'
     rw [hw]
     try rw [hb]
     clear hw hb
     refine hK.out _ _ HBr.out (fun hHeld => ?_)
     clear hK K
     try simp only [Act.put, sX1, sX2, sX3]
     refine stepL 5 (by kernel_rfl) rfl (fun K hK => ?_)
     go_simp
     refine (times_b (w := w3) Vh.out Vr.out Sh.out Sr.out (by omega)).mono ?_
     rintro e w4 ⟨s_t, a_t, n_t, c_t, rfl, h_t, hB⟩
     have Vt := hZ h_t
     replace HBr := hZ (HBr.out.trans (Only.of_below hB))
     replace Rr := hZ (Rr.out.blw hB)
     replace Rp := hZ (Rp.out.blw hB)
     replace Oc := hZ (Oc.out.blw hB)
     replace Fh := hZ (Fh.out.blw hB)
     replace Op := hZ (Op.out.blw hB)
     replace Fd := hZ (Fd.out.blw hB)
     replace Ff := hZ (Ff.out.blw hB)
     replace Vr := hZ (Vr.out.blw hB)
     replace Vh := hZ (Vh.out.blw hB)
     replace Fe := hZ (Fe.out.blw hB)
     replace HJ := hZ (HJ.out.trans (hB.mono HJ.out.size))
     replace HO := hZ (HO.out.blw hB)
     clear hB
     clear h_t
     refine hK.out _ _ HBr.out (fun hHeld => ?_)
     clear hK K
     try simp only [Act.put, sX1, sX2, sX3]
     obtain ⟨s_9, a_9, n_9, c_9, t_9, -⟩ := Fe.out
     have e0 := t_9.cell0
     have e1 := t_9.cell1
     have e2 := t_9.frozen 0
     have e3 := t_9.frozen 1
     clear t_9
     have hn9 : NoInt w4 (be) := Fe.out.noInt
     obtain ⟨w5, hw⟩ : ∃ w', (w4.setCell ⟨be, 0, none⟩ (.bool s_t)).setCell ⟨be, 1, none⟩ (.slice a_t n_t c_t) = w' := ⟨_, rfl⟩
     have hw2 : st2 w4 (be) (0) (1) s_t a_t n_t c_t = w5 := hw
     replace Fe := hZ (Bx.put Fe.out Vt.out)
     rw [hw2] at Fe
     replace Rr := hZ (Rr.out.offe hw2 hn9 (by have := Hlt1.out; omega))
     replace Rp := hZ (Rp.out.offe hw2 hn9 (by have := Hlt1.out; omega))
     replace Oc := hZ (Oc.out.offe hw2 (by have := Hlt1.out; omega))
     replace Fh := hZ (Fh.out.offe hw2 hn9 (by have := Hlt1.out; omega))
     replace Op := hZ (Op.out.offe hw2 (by have := Hlt1.out; omega))
     replace Fd := hZ (Fd.out.offe hw2 hn9 (by have := Hlt1.out; omega))
     replace Ff := hZ (Ff.out.offe hw2 hn9 (by have := Hlt1.out; omega))
     replace Vr := hZ (Vr.out.offe hw2 hn9)
     replace Vh := hZ (Vh.out.offe hw2 hn9)
     replace Vt := hZ (Vt.out.offe hw2 hn9)
     replace HJ := hZ (below_off (g := be) (o1 := 0) (o2 := 1) (s := s_t) (a := a_t) (n := n_t) (c := c_t) HJ.out (by have := HJs.out; omega))
     rw [hw2] at HJ
     replace HO := hZ (HO.out.offe hw2 (Or.inr (by have := HOs.out; omega)))
     clear hw2 hn9
     refine lateL 7 (by kernel_rfl) (by decide) rfl (fun K hK => ?_)
     go_simp
     try rw [hw]
     refine hK.out _ _ ?_
     clear hK K
     try simp only [Act.put, sX1, sX2, sX3]
     clear hw e0 e1 e2 e3
     refine doneL (by kernel_rfl) ?_ _
     clear hHeld
     refine joinQ_normal ⟨_, _, _, _, _, _, _, by first | rfl | (simp only [sX1, sX2, sX3]; rfl), Fe, HJ, hZ (by have := HJs.out; omega)⟩
   ·skip
    rintro a w2 ⟨v18, v19, v20, v21, v22, v23, be, rfl, Fe, HJ, Hge⟩
    simp only [sX1, sX2, sX3]
    have Hlt1 : Hid (g < be ∧ gp < be ∧ bc < be ∧ bh < be ∧ bp < be ∧ bd < be ∧ bf < be ∧ w0.heap.size ≤ be) := hZ (by have h1 := Hge.out; have h2 := Rr.out.lt; have h3 := Rp.out.lt; have h4 := Oc.out.lt; have h5 := Fh.out.lt; have h6 := Op.out.lt; have h7 := Fd.out.lt; have h8 := Ff.out.lt; have h9 := HO.out.size; omega)
    have hB := HJ.out
    clear HJ Hge
    replace Rr := hZ (Rr.out.blw hB)
    replace Rp := hZ (Rp.out.blw hB)
    replace Oc := hZ (Oc.out.blw hB)
    replace Fh := hZ (Fh.out.blw hB)
    replace Op := hZ (Op.out.blw hB)
    replace Fd := hZ (Fd.out.blw hB)
    replace Ff := hZ (Ff.out.blw hB)
    replace HO := hZ (HO.out.blw hB)
    clear hB
    obtain ⟨s_f, a_f, n_f, c_f, t_f, h_f⟩ := Ff.out
    have d0f := t_f.cell0
    have d1f := t_f.cell1
    have Vf := hZ h_f
    clear t_f h_f
    go_wp2_with fail
    by_cases hf0 : f = 0
    ·skip
     obtain ⟨p, hp⟩ : ∃ p, ps[j]'Hjp.out = p := ⟨_, rfl⟩
     have Hp := hZ hp
     have Sp : Hid (Sz 4000 p) := hZ (hp ▸ SP.out _ (List.getElem_mem _))
     clear hp
     refine (sign_b (w := w2) Vf.out Sf.out (by omega)).mono ?_
     rintro e w3 ⟨he, hB⟩
     rw [show cmp3 f 0 = 0 by rw [hf0]; exact cmp3_eq 0] at he
     subst he
     replace Rr := hZ (Rr.out.blw hB)
     replace Rp := hZ (Rp.out.blw hB)
     replace Oc := hZ (Oc.out.blw hB)
     replace Fh := hZ (Fh.out.blw hB)
     replace Op := hZ (Op.out.blw hB)
     replace Fd := hZ (Fd.out.blw hB)
     replace Ff := hZ (Ff.out.blw hB)
     replace Fe := hZ (Fe.out.blw hB)
     replace Vf := hZ (Vf.out.blw hB)
     replace HO := hZ (HO.out.blw hB)
     clear hB
     clear d0f d1f
     clear Vf
     obtain ⟨E, hE⟩ : ∃ E, h * r - f * p = E := ⟨_, rfl⟩
     replace Fe : Hid (Bx w3 be E) := hZ (by have h1 := Fe.out; rw [← hE]; rw [hf0]; simp only [Int.zero_mul, Int.sub_zero]; exact h1)
     have HE := hZ hE
     clear hE
     have SE : Hid (Sz 8001 E) := hZ (by rw [← HE.out]; exact (Sh.out.mul Sr.out).sub (Sf.out.mul Sp.out))
     obtain ⟨s_e, a_e, n_e, c_e, t_e, h_e⟩ := Fe.out
     have d0e := t_e.cell0
     have d1e := t_e.cell1
     have Ve := hZ h_e
     clear t_e h_e
     go_wp2_with fail
     clear d0e d1e
     by_cases hE0 : E = 0
     ·skip
      refine (sign_b (w := w3) Ve.out SE.out (by omega)).mono ?_
      rintro e w4 ⟨he, hB⟩
      rw [show cmp3 E 0 = 0 by rw [hE0]; exact cmp3_eq 0] at he
      subst he
      replace Rr := hZ (Rr.out.blw hB)
      replace Rp := hZ (Rp.out.blw hB)
      replace Oc := hZ (Oc.out.blw hB)
      replace Fh := hZ (Fh.out.blw hB)
      replace Op := hZ (Op.out.blw hB)
      replace Fd := hZ (Fd.out.blw hB)
      replace Ff := hZ (Ff.out.blw hB)
      replace Fe := hZ (Fe.out.blw hB)
      replace Ve := hZ (Ve.out.blw hB)
      replace HO := hZ (HO.out.blw hB)
      clear hB
      clear Ve
      obtain ⟨s_v, a_v, n_v, c_v, t_v, h_v⟩ := Fe.out
      have d0v := t_v.cell0
      have d1v := t_v.cell1
      have Vv := hZ h_v
      clear t_v h_v
      obtain ⟨s_9, a_9, n_9, c_9, e0, e1, -⟩ := Rr.out.get (j) Hjr.out
      have e2 := Rr.out.frozen (j * 2)
      have e3 := Rr.out.frozen (j * 2 + 1)
      have hn9 : NoInt w4 (g) := Rr.out.noInt
      obtain ⟨w5, hw⟩ : ∃ w', (w4.setCell ⟨g, j * 2, none⟩ (.bool s_v)).setCell ⟨g, j * 2 + 1, none⟩ (.slice a_v n_v c_v) = w' := ⟨_, rfl⟩
      have hw2 : st2 w4 (g) (j * 2) (j * 2 + 1) s_v a_v n_v c_v = w5 := hw
      replace Rr := hZ (WRow.put' Rr.out (j) Hjr.out Vv.out)
      rw [hw2] at Rr
      replace Rp := hZ (Rp.out.offe hw2 hn9 (by have := Hne.out; have := Hlt1.out; have := Hbf.out; have := Hlt0.out; omega))
      replace Oc := hZ (Oc.out.offe hw2 (by have := Hne.out; have := Hlt1.out; have := Hbf.out; have := Hlt0.out; omega))
      replace Fh := hZ (Fh.out.offe hw2 hn9 (by have := Hne.out; have := Hlt1.out; have := Hbf.out; have := Hlt0.out; omega))
      replace Op := hZ (Op.out.offe hw2 (by have := Hne.out; have := Hlt1.out; have := Hbf.out; have := Hlt0.out; omega))
      replace Fd := hZ (Fd.out.offe hw2 hn9 (by have := Hne.out; have := Hlt1.out; have := Hbf.out; have := Hlt0.out; omega))
      replace Ff := hZ (Ff.out.offe hw2 hn9 (by have := Hne.out; have := Hlt1.out; have := Hbf.out; have := Hlt0.out; omega))
      replace Fe := hZ (Fe.out.offe hw2 hn9 (by have := Hne.out; have := Hlt1.out; have := Hbf.out; have := Hlt0.out; omega))
      replace Vv := hZ (Vv.out.offe hw2 hn9)
      replace HO := hZ (HO.out.offe hw2 (Or.inl rfl))
      clear hw2 hn9
      go_wp2_with fail
      clear d0v d1v
      clear hw e0 e1 e2 e3
      have hz : (oprL h f d zs ps)[j]'(by have := HTl.out; omega) = E := by rw [oprL_at _ Hjz.out Hjp.out, Hr.out, Hp.out, HE.out]; rw [hE0]; simp
      replace Rr : Hid (WRow w5 g ((oprL h f d zs ps).take (j + 1) ++ zs.drop (j + 1))) := hZ (by have h1 := Rr.out; rw [← hz, td_set Htl.out Hjz.out] at h1; exact h1)
      clear hz
      go_roundw
      case rel => exact ⟨j + 1, by omega, by go_num, Rr, Rp, Oc, Fh, Op, Fd, Ff, HO⟩
      case measure => simp [intOf]; omega
     ·skip
      refine (sign_b (w := w3) Ve.out SE.out (by omega)).mono ?_
      rintro e w4 ⟨he, hB⟩
      obtain ⟨sge, hs9, q0e, q1e⟩ := cmp3_nz (x := E) hE0
      rw [hs9] at he
      subst he
      clear hs9
      replace Rr := hZ (Rr.out.blw hB)
      replace Rp := hZ (Rp.out.blw hB)
      replace Oc := hZ (Oc.out.blw hB)
      replace Fh := hZ (Fh.out.blw hB)
      replace Op := hZ (Op.out.blw hB)
      replace Fd := hZ (Fd.out.blw hB)
      replace Ff := hZ (Ff.out.blw hB)
      replace Fe := hZ (Fe.out.blw hB)
      replace Ve := hZ (Ve.out.blw hB)
      replace HO := hZ (HO.out.blw hB)
      clear hB
      clear Ve
      obtain ⟨s_e, a_e, n_e, c_e, t_e, h_e⟩ := Fe.out
      have d0e := t_e.cell0
      have d1e := t_e.cell1
      have Ve := hZ h_e
      clear t_e h_e
      obtain ⟨s_d, a_d, n_d, c_d, t_d, h_d⟩ := Fd.out
      have d0d := t_d.cell0
      have d1d := t_d.cell1
      have Vd := hZ h_d
      clear t_d h_d
      go_wp2_with fail
      clear d0e d1e d0d d1d
      clear q0e q1e
      refine (over_b (w := w4) Ve.out Vd.out SE.out Sd.out hd (by omega) (by omega)).mono ?_
      rintro e w5 ⟨s_q, a_q, n_q, c_q, rfl, h_q, hB⟩
      have Vq := hZ h_q
      replace Rr := hZ (Rr.out.blw hB)
      replace Rp := hZ (Rp.out.blw hB)
      replace Oc := hZ (Oc.out.blw hB)
      replace Fh := hZ (Fh.out.blw hB)
      replace Op := hZ (Op.out.blw hB)
      replace Fd := hZ (Fd.out.blw hB)
      replace Ff := hZ (Ff.out.blw hB)
      replace Fe := hZ (Fe.out.blw hB)
      replace Ve := hZ (Ve.out.blw hB)
      replace Vd := hZ (Vd.out.blw hB)
      replace HO := hZ (HO.out.blw hB)
      clear hB
      clear h_q
      obtain ⟨s_9, a_9, n_9, c_9, t_9, -⟩ := Fe.out
      have e0A := t_9.cell0
      have e1A := t_9.cell1
      have e2A := t_9.frozen 0
      have e3A := t_9.frozen 1
      clear t_9
      have hn9 : NoInt w5 (be) := Fe.out.noInt
      obtain ⟨w6, hwA⟩ : ∃ w', (w5.setCell ⟨be, 0, none⟩ (.bool s_q)).setCell ⟨be, 1, none⟩ (.slice a_q n_q c_q) = w' := ⟨_, rfl⟩
      have hw2 : st2 w5 (be) (0) (1) s_q a_q n_q c_q = w6 := hwA
      replace Fe := hZ (Bx.put Fe.out Vq.out)
      rw [hw2] at Fe
      replace Rr := hZ (Rr.out.offe hw2 hn9 (by have := Hlt1.out; omega))
      replace Rp := hZ (Rp.out.offe hw2 hn9 (by have := Hlt1.out; omega))
      replace Oc := hZ (Oc.out.offe hw2 (by have := Hlt1.out; omega))
      replace Fh := hZ (Fh.out.offe hw2 hn9 (by have := Hlt1.out; omega))
      replace Op := hZ (Op.out.offe hw2 (by have := Hlt1.out; omega))
      replace Fd := hZ (Fd.out.offe hw2 hn9 (by have := Hlt1.out; omega))
      replace Ff := hZ (Ff.out.offe hw2 hn9 (by have := Hlt1.out; omega))
      replace Ve := hZ (Ve.out.offe hw2 hn9)
      replace Vd := hZ (Vd.out.offe hw2 hn9)
      replace Vq := hZ (Vq.out.offe hw2 hn9)
      replace HO := hZ (HO.out.offe hw2 (Or.inr (by have := Hlt1.out; omega)))
      clear hw2 hn9
      obtain ⟨s_v, a_v, n_v, c_v, t_v, h_v⟩ := Fe.out
      have d0v := t_v.cell0
      have d1v := t_v.cell1
      have Vv := hZ h_v
      clear t_v h_v
      obtain ⟨s_9, a_9, n_9, c_9, e0B, e1B, -⟩ := Rr.out.get (j) Hjr.out
      have e2B := Rr.out.frozen (j * 2)
      have e3B := Rr.out.frozen (j * 2 + 1)
      have hn9 : NoInt w6 (g) := Rr.out.noInt
      obtain ⟨w7, hwB⟩ : ∃ w', (w6.setCell ⟨g, j * 2, none⟩ (.bool s_v)).setCell ⟨g, j * 2 + 1, none⟩ (.slice a_v n_v c_v) = w' := ⟨_, rfl⟩
      have hw2 : st2 w6 (g) (j * 2) (j * 2 + 1) s_v a_v n_v c_v = w7 := hwB
      replace Rr := hZ (WRow.put' Rr.out (j) Hjr.out Vv.out)
      rw [hw2] at Rr
      replace Rp := hZ (Rp.out.offe hw2 hn9 (by have := Hne.out; have := Hlt1.out; have := Hbf.out; have := Hlt0.out; omega))
      replace Oc := hZ (Oc.out.offe hw2 (by have := Hne.out; have := Hlt1.out; have := Hbf.out; have := Hlt0.out; omega))
      replace Fh := hZ (Fh.out.offe hw2 hn9 (by have := Hne.out; have := Hlt1.out; have := Hbf.out; have := Hlt0.out; omega))
      replace Op := hZ (Op.out.offe hw2 (by have := Hne.out; have := Hlt1.out; have := Hbf.out; have := Hlt0.out; omega))
      replace Fd := hZ (Fd.out.offe hw2 hn9 (by have := Hne.out; have := Hlt1.out; have := Hbf.out; have := Hlt0.out; omega))
      replace Ff := hZ (Ff.out.offe hw2 hn9 (by have := Hne.out; have := Hlt1.out; have := Hbf.out; have := Hlt0.out; omega))
      replace Fe := hZ (Fe.out.offe hw2 hn9 (by have := Hne.out; have := Hlt1.out; have := Hbf.out; have := Hlt0.out; omega))
      replace Ve := hZ (Ve.out.offe hw2 hn9)
      replace Vd := hZ (Vd.out.offe hw2 hn9)
      replace Vq := hZ (Vq.out.offe hw2 hn9)
      replace Vv := hZ (Vv.out.offe hw2 hn9)
      replace HO := hZ (HO.out.offe hw2 (Or.inl rfl))
      clear hw2 hn9
      go_wp2_with fail
      clear d0v d1v
      clear hwA e0A e1A e2A e3A hwB e0B e1B e2B e3B
      have hz : (oprL h f d zs ps)[j]'(by have := HTl.out; omega) = E / d := by rw [oprL_at _ Hjz.out Hjp.out, Hr.out, Hp.out, HE.out]
      replace Rr : Hid (WRow w7 g ((oprL h f d zs ps).take (j + 1) ++ zs.drop (j + 1))) := hZ (by have h1 := Rr.out; rw [← hz, td_set Htl.out Hjz.out] at h1; exact h1)
      clear hz
      go_roundw
      case rel => exact ⟨j + 1, by omega, by go_num, Rr, Rp, Oc, Fh, Op, Fd, Ff, HO⟩
      case measure => simp [intOf]; omega
    ·skip
     obtain ⟨p, hp⟩ : ∃ p, ps[j]'Hjp.out = p := ⟨_, rfl⟩
     have Hp := hZ hp
     have Sp : Hid (Sz 4000 p) := hZ (hp ▸ SP.out _ (List.getElem_mem _))
     refine (sign_b (w := w2) Vf.out Sf.out (by omega)).mono ?_
     rintro e w3 ⟨he, hB⟩
     obtain ⟨sgf, hs9, q0f, q1f⟩ := cmp3_nz (x := f) hf0
     rw [hs9] at he
     subst he
     clear hs9
     replace Rr := hZ (Rr.out.blw hB)
     replace Rp := hZ (Rp.out.blw hB)
     replace Oc := hZ (Oc.out.blw hB)
     replace Fh := hZ (Fh.out.blw hB)
     replace Op := hZ (Op.out.blw hB)
     replace Fd := hZ (Fd.out.blw hB)
     replace Ff := hZ (Ff.out.blw hB)
     replace Fe := hZ (Fe.out.blw hB)
     replace Vf := hZ (Vf.out.blw hB)
     replace HO := hZ (HO.out.blw hB)
     clear hB
     clear d0f d1f
     clear Vf
     obtain ⟨s_p, a_p, n_p, c_p, d0p, d1p, h_p⟩ := Rp.out.get j Hjp.out
     rw [hp] at h_p
     have Vp := hZ h_p
     clear h_p hp
     have dop := Op.out.cell
     go_wp2_with fail
     clear q0f q1f d0p d1p dop
     by_cases hp0 : p = 0
     ·skip
      refine (sign_b (w := w3) Vp.out Sp.out (by omega)).mono ?_
      rintro e w4 ⟨he, hB⟩
      rw [show cmp3 p 0 = 0 by rw [hp0]; exact cmp3_eq 0] at he
      subst he
      replace Rr := hZ (Rr.out.blw hB)
      replace Rp := hZ (Rp.out.blw hB)
      replace Oc := hZ (Oc.out.blw hB)
      replace Fh := hZ (Fh.out.blw hB)
      replace Op := hZ (Op.out.blw hB)
      replace Fd := hZ (Fd.out.blw hB)
      replace Ff := hZ (Ff.out.blw hB)
      replace Fe := hZ (Fe.out.blw hB)
      replace Vp := hZ (Vp.out.blw hB)
      replace HO := hZ (HO.out.blw hB)
      clear hB
      clear Vp
      obtain ⟨E, hE⟩ : ∃ E, h * r - f * p = E := ⟨_, rfl⟩
      replace Fe : Hid (Bx w4 be E) := hZ (by have h1 := Fe.out; rw [← hE]; rw [hp0]; simp only [Int.mul_zero, Int.sub_zero]; exact h1)
      have HE := hZ hE
      clear hE
      have SE : Hid (Sz 8001 E) := hZ (by rw [← HE.out]; exact (Sh.out.mul Sr.out).sub (Sf.out.mul Sp.out))
      obtain ⟨s_e, a_e, n_e, c_e, t_e, h_e⟩ := Fe.out
      have d0e := t_e.cell0
      have d1e := t_e.cell1
      have Ve := hZ h_e
      clear t_e h_e
      go_wp2_with fail
      clear d0e d1e
      by_cases hE0 : E = 0
      ·skip
       refine (sign_b (w := w4) Ve.out SE.out (by omega)).mono ?_
       rintro e w5 ⟨he, hB⟩
       rw [show cmp3 E 0 = 0 by rw [hE0]; exact cmp3_eq 0] at he
       subst he
       replace Rr := hZ (Rr.out.blw hB)
       replace Rp := hZ (Rp.out.blw hB)
       replace Oc := hZ (Oc.out.blw hB)
       replace Fh := hZ (Fh.out.blw hB)
       replace Op := hZ (Op.out.blw hB)
       replace Fd := hZ (Fd.out.blw hB)
       replace Ff := hZ (Ff.out.blw hB)
       replace Fe := hZ (Fe.out.blw hB)
       replace Ve := hZ (Ve.out.blw hB)
       replace HO := hZ (HO.out.blw hB)
       clear hB
       clear Ve
       obtain ⟨s_v, a_v, n_v, c_v, t_v, h_v⟩ := Fe.out
       have d0v := t_v.cell0
       have d1v := t_v.cell1
       have Vv := hZ h_v
       clear t_v h_v
       obtain ⟨s_9, a_9, n_9, c_9, e0, e1, -⟩ := Rr.out.get (j) Hjr.out
       have e2 := Rr.out.frozen (j * 2)
       have e3 := Rr.out.frozen (j * 2 + 1)
       have hn9 : NoInt w5 (g) := Rr.out.noInt
       obtain ⟨w6, hw⟩ : ∃ w', (w5.setCell ⟨g, j * 2, none⟩ (.bool s_v)).setCell ⟨g, j * 2 + 1, none⟩ (.slice a_v n_v c_v) = w' := ⟨_, rfl⟩
       have hw2 : st2 w5 (g) (j * 2) (j * 2 + 1) s_v a_v n_v c_v = w6 := hw
       replace Rr := hZ (WRow.put' Rr.out (j) Hjr.out Vv.out)
       rw [hw2] at Rr
       replace Rp := hZ (Rp.out.offe hw2 hn9 (by have := Hne.out; have := Hlt1.out; have := Hbf.out; have := Hlt0.out; omega))
       replace Oc := hZ (Oc.out.offe hw2 (by have := Hne.out; have := Hlt1.out; have := Hbf.out; have := Hlt0.out; omega))
       replace Fh := hZ (Fh.out.offe hw2 hn9 (by have := Hne.out; have := Hlt1.out; have := Hbf.out; have := Hlt0.out; omega))
       replace Op := hZ (Op.out.offe hw2 (by have := Hne.out; have := Hlt1.out; have := Hbf.out; have := Hlt0.out; omega))
       replace Fd := hZ (Fd.out.offe hw2 hn9 (by have := Hne.out; have := Hlt1.out; have := Hbf.out; have := Hlt0.out; omega))
       replace Ff := hZ (Ff.out.offe hw2 hn9 (by have := Hne.out; have := Hlt1.out; have := Hbf.out; have := Hlt0.out; omega))
       replace Fe := hZ (Fe.out.offe hw2 hn9 (by have := Hne.out; have := Hlt1.out; have := Hbf.out; have := Hlt0.out; omega))
       replace Vv := hZ (Vv.out.offe hw2 hn9)
       replace HO := hZ (HO.out.offe hw2 (Or.inl rfl))
       clear hw2 hn9
       go_wp2_with fail
       clear d0v d1v
       clear hw e0 e1 e2 e3
       have hz : (oprL h f d zs ps)[j]'(by have := HTl.out; omega) = E := by rw [oprL_at _ Hjz.out Hjp.out, Hr.out, Hp.out, HE.out]; rw [hE0]; simp
       replace Rr : Hid (WRow w6 g ((oprL h f d zs ps).take (j + 1) ++ zs.drop (j + 1))) := hZ (by have h1 := Rr.out; rw [← hz, td_set Htl.out Hjz.out] at h1; exact h1)
       clear hz
       go_roundw
       case rel => exact ⟨j + 1, by omega, by go_num, Rr, Rp, Oc, Fh, Op, Fd, Ff, HO⟩
       case measure => simp [intOf]; omega
      ·skip
       refine (sign_b (w := w4) Ve.out SE.out (by omega)).mono ?_
       rintro e w5 ⟨he, hB⟩
       obtain ⟨sge, hs9, q0e, q1e⟩ := cmp3_nz (x := E) hE0
       rw [hs9] at he
       subst he
       clear hs9
       replace Rr := hZ (Rr.out.blw hB)
       replace Rp := hZ (Rp.out.blw hB)
       replace Oc := hZ (Oc.out.blw hB)
       replace Fh := hZ (Fh.out.blw hB)
       replace Op := hZ (Op.out.blw hB)
       replace Fd := hZ (Fd.out.blw hB)
       replace Ff := hZ (Ff.out.blw hB)
       replace Fe := hZ (Fe.out.blw hB)
       replace Ve := hZ (Ve.out.blw hB)
       replace HO := hZ (HO.out.blw hB)
       clear hB
       clear Ve
       obtain ⟨s_e, a_e, n_e, c_e, t_e, h_e⟩ := Fe.out
       have d0e := t_e.cell0
       have d1e := t_e.cell1
       have Ve := hZ h_e
       clear t_e h_e
       obtain ⟨s_d, a_d, n_d, c_d, t_d, h_d⟩ := Fd.out
       have d0d := t_d.cell0
       have d1d := t_d.cell1
       have Vd := hZ h_d
       clear t_d h_d
       go_wp2_with fail
       clear d0e d1e d0d d1d
       clear q0e q1e
       refine (over_b (w := w5) Ve.out Vd.out SE.out Sd.out hd (by omega) (by omega)).mono ?_
       rintro e w6 ⟨s_q, a_q, n_q, c_q, rfl, h_q, hB⟩
       have Vq := hZ h_q
       replace Rr := hZ (Rr.out.blw hB)
       replace Rp := hZ (Rp.out.blw hB)
       replace Oc := hZ (Oc.out.blw hB)
       replace Fh := hZ (Fh.out.blw hB)
       replace Op := hZ (Op.out.blw hB)
       replace Fd := hZ (Fd.out.blw hB)
       replace Ff := hZ (Ff.out.blw hB)
       replace Fe := hZ (Fe.out.blw hB)
       replace Ve := hZ (Ve.out.blw hB)
       replace Vd := hZ (Vd.out.blw hB)
       replace HO := hZ (HO.out.blw hB)
       clear hB
       clear h_q
       obtain ⟨s_9, a_9, n_9, c_9, t_9, -⟩ := Fe.out
       have e0A := t_9.cell0
       have e1A := t_9.cell1
       have e2A := t_9.frozen 0
       have e3A := t_9.frozen 1
       clear t_9
       have hn9 : NoInt w6 (be) := Fe.out.noInt
       obtain ⟨w7, hwA⟩ : ∃ w', (w6.setCell ⟨be, 0, none⟩ (.bool s_q)).setCell ⟨be, 1, none⟩ (.slice a_q n_q c_q) = w' := ⟨_, rfl⟩
       have hw2 : st2 w6 (be) (0) (1) s_q a_q n_q c_q = w7 := hwA
       replace Fe := hZ (Bx.put Fe.out Vq.out)
       rw [hw2] at Fe
       replace Rr := hZ (Rr.out.offe hw2 hn9 (by have := Hlt1.out; omega))
       replace Rp := hZ (Rp.out.offe hw2 hn9 (by have := Hlt1.out; omega))
       replace Oc := hZ (Oc.out.offe hw2 (by have := Hlt1.out; omega))
       replace Fh := hZ (Fh.out.offe hw2 hn9 (by have := Hlt1.out; omega))
       replace Op := hZ (Op.out.offe hw2 (by have := Hlt1.out; omega))
       replace Fd := hZ (Fd.out.offe hw2 hn9 (by have := Hlt1.out; omega))
       replace Ff := hZ (Ff.out.offe hw2 hn9 (by have := Hlt1.out; omega))
       replace Ve := hZ (Ve.out.offe hw2 hn9)
       replace Vd := hZ (Vd.out.offe hw2 hn9)
       replace Vq := hZ (Vq.out.offe hw2 hn9)
       replace HO := hZ (HO.out.offe hw2 (Or.inr (by have := Hlt1.out; omega)))
       clear hw2 hn9
       obtain ⟨s_v, a_v, n_v, c_v, t_v, h_v⟩ := Fe.out
       have d0v := t_v.cell0
       have d1v := t_v.cell1
       have Vv := hZ h_v
       clear t_v h_v
       obtain ⟨s_9, a_9, n_9, c_9, e0B, e1B, -⟩ := Rr.out.get (j) Hjr.out
       have e2B := Rr.out.frozen (j * 2)
       have e3B := Rr.out.frozen (j * 2 + 1)
       have hn9 : NoInt w7 (g) := Rr.out.noInt
       obtain ⟨w8, hwB⟩ : ∃ w', (w7.setCell ⟨g, j * 2, none⟩ (.bool s_v)).setCell ⟨g, j * 2 + 1, none⟩ (.slice a_v n_v c_v) = w' := ⟨_, rfl⟩
       have hw2 : st2 w7 (g) (j * 2) (j * 2 + 1) s_v a_v n_v c_v = w8 := hwB
       replace Rr := hZ (WRow.put' Rr.out (j) Hjr.out Vv.out)
       rw [hw2] at Rr
       replace Rp := hZ (Rp.out.offe hw2 hn9 (by have := Hne.out; have := Hlt1.out; have := Hbf.out; have := Hlt0.out; omega))
       replace Oc := hZ (Oc.out.offe hw2 (by have := Hne.out; have := Hlt1.out; have := Hbf.out; have := Hlt0.out; omega))
       replace Fh := hZ (Fh.out.offe hw2 hn9 (by have := Hne.out; have := Hlt1.out; have := Hbf.out; have := Hlt0.out; omega))
       replace Op := hZ (Op.out.offe hw2 (by have := Hne.out; have := Hlt1.out; have := Hbf.out; have := Hlt0.out; omega))
       replace Fd := hZ (Fd.out.offe hw2 hn9 (by have := Hne.out; have := Hlt1.out; have := Hbf.out; have := Hlt0.out; omega))
       replace Ff := hZ (Ff.out.offe hw2 hn9 (by have := Hne.out; have := Hlt1.out; have := Hbf.out; have := Hlt0.out; omega))
       replace Fe := hZ (Fe.out.offe hw2 hn9 (by have := Hne.out; have := Hlt1.out; have := Hbf.out; have := Hlt0.out; omega))
       replace Ve := hZ (Ve.out.offe hw2 hn9)
       replace Vd := hZ (Vd.out.offe hw2 hn9)
       replace Vq := hZ (Vq.out.offe hw2 hn9)
       replace Vv := hZ (Vv.out.offe hw2 hn9)
       replace HO := hZ (HO.out.offe hw2 (Or.inl rfl))
       clear hw2 hn9
       go_wp2_with fail
       clear d0v d1v
       clear hwA e0A e1A e2A e3A hwB e0B e1B e2B e3B
       have hz : (oprL h f d zs ps)[j]'(by have := HTl.out; omega) = E / d := by rw [oprL_at _ Hjz.out Hjp.out, Hr.out, Hp.out, HE.out]
       replace Rr : Hid (WRow w8 g ((oprL h f d zs ps).take (j + 1) ++ zs.drop (j + 1))) := hZ (by have h1 := Rr.out; rw [← hz, td_set Htl.out Hjz.out] at h1; exact h1)
       clear hz
       go_roundw
       case rel => exact ⟨j + 1, by omega, by go_num, Rr, Rp, Oc, Fh, Op, Fd, Ff, HO⟩
       case measure => simp [intOf]; omega
     ·skip
      refine (sign_b (w := w3) Vp.out Sp.out (by omega)).mono ?_
      rintro e w4 ⟨he, hB⟩
      obtain ⟨sgp, hs9, q0p, q1p⟩ := cmp3_nz (x := p) hp0
      rw [hs9] at he
      subst he
      clear hs9
      replace Rr := hZ (Rr.out.blw hB)
      replace Rp := hZ (Rp.out.blw hB)
      replace Oc := hZ (Oc.out.blw hB)
      replace Fh := hZ (Fh.out.blw hB)
      replace Op := hZ (Op.out.blw hB)
      replace Fd := hZ (Fd.out.blw hB)
      replace Ff := hZ (Ff.out.blw hB)
      replace Fe := hZ (Fe.out.blw hB)
      replace Vp := hZ (Vp.out.blw hB)
      replace HO := hZ (HO.out.blw hB)
      clear hB
      clear Vp
      go_wp2_with fail
      clear q0p q1p
      obtain ⟨w5, hwd⟩ : ∃ w', w4.drew = w' := ⟨_, rfl⟩
      have hB : Below w4.heap.size w4 w5 := by rw [← hwd]; exact (Below.refl _ _).drew
      replace Rr := hZ (Rr.out.blw hB)
      replace Rp := hZ (Rp.out.blw hB)
      replace Oc := hZ (Oc.out.blw hB)
      replace Fh := hZ (Fh.out.blw hB)
      replace Op := hZ (Op.out.blw hB)
      replace Fd := hZ (Fd.out.blw hB)
      replace Ff := hZ (Ff.out.blw hB)
      replace Fe := hZ (Fe.out.blw hB)
      replace HO := hZ (HO.out.blw hB)
      clear hB
      have HBr : Hid (Only (fun b => False) w5 w5) := hZ (Only.refl _ _)
      refine startL [8] (fun w' => Only (fun b => False) w5 w') (by kernel_rfl) (by rw [hwd]; exact Only.refl _ _) (fun hHeld => ?_)
      rw [hwd] at hHeld ⊢
      clear hwd
      obtain ⟨s_e, a_e, n_e, c_e, t_e, h_e⟩ := Fe.out
      have d0e := t_e.cell0
      have d1e := t_e.cell1
      have Ve := hZ h_e
      clear t_e h_e
      obtain ⟨s_f, a_f, n_f, c_f, t_f, h_f⟩ := Ff.out
      have d0f := t_f.cell0
      have d1f := t_f.cell1
      have Vf := hZ h_f
      clear t_f h_f
      have dop := Op.out.cell
      obtain ⟨s_p, a_p, n_p, c_p, d0p, d1p, h_p⟩ := Rp.out.get j Hjp.out
      rw [Hp.out] at h_p
      have Vp := hZ h_p
      clear h_p
      refine takeL 0 35 (v := ?_) rfl rfl (by kernel_rfl) (by kernel_rfl) (by kernel_rfl) (by kernel_rfl) (by kernel_rfl) (fun _ _ _ h => h) (by rfl) ?_ (by assumption) ?_
      rotate_left
      ·(intro w hSw; have x0 := (hSw.cell (p := ⟨be, 0, none⟩) (fun h => h) Fe.out.lt).trans d0e; have x1 := (hSw.cell (p := ⟨be, 1, none⟩) (fun h => h) Fe.out.lt).trans d1e; go_simp; first | done | with_reducible rfl)
      simp only [sX1, sX2, sX3]
      refine takeL 1 36 (v := ?_) rfl rfl (by kernel_rfl) (by kernel_rfl) (by kernel_rfl) (by kernel_rfl) (by kernel_rfl) (fun _ _ _ h => h) (by rfl) ?_ (by assumption) ?_
      rotate_left
      ·(intro w hSw; have x0 := (hSw.cell (p := ⟨bf, 0, none⟩) (fun h => h) Ff.out.lt).trans d0f; have x1 := (hSw.cell (p := ⟨bf, 1, none⟩) (fun h => h) Ff.out.lt).trans d1f; go_simp; first | done | with_reducible rfl)
      simp only [sX1, sX2, sX3]
      refine takeL 2 37 (v := ?_) rfl rfl (by kernel_rfl) (by kernel_rfl) (by kernel_rfl) (by kernel_rfl) (by kernel_rfl) (fun _ _ _ h => h) (by rfl) ?_ (by assumption) ?_
      rotate_left
      ·(intro w hSw; have x0 := (hSw.cell (p := ⟨bp, 0, none⟩) (fun h => h) Op.out.lt).trans dop; go_simp; first | done | with_reducible rfl)
      simp only [sX1, sX2, sX3]
      refine takeL 3 38 (v := ?_) rfl rfl (by kernel_rfl) (by kernel_rfl) (by kernel_rfl) (by kernel_rfl) (by kernel_rfl) (fun _ _ _ h => h) (by rfl) ?_ (by assumption) ?_
      rotate_left
      ·(intro w hSw; go_simp; first | done | with_reducible rfl)
      simp only [sX1, sX2, sX3]
      refine takeL 4 39 (v := ?_) rfl rfl (by kernel_rfl) (by kernel_rfl) (by kernel_rfl) (by kernel_rfl) (by kernel_rfl) (fun _ _ _ h => h) (by rfl) ?_ (by assumption) ?_
      rotate_left
      ·(intro w hSw; go_simp; first | done | with_reducible rfl)
      simp only [sX1, sX2, sX3]
      refine takeL 5 40 (v := ?_) rfl rfl (by kernel_rfl) (by kernel_rfl) (by kernel_rfl) (by kernel_rfl) (by kernel_rfl) (fun _ _ _ h => h) (by rfl) ?_ (by assumption) ?_
      rotate_left
      ·(intro w hSw; have x0 := (hSw.cell (p := ⟨gp, j * 2, none⟩) (fun h => h) Rp.out.lt).trans d0p; have x1 := (hSw.cell (p := ⟨gp, j * 2 + 1, none⟩) (fun h => h) Rp.out.lt).trans d1p; go_simp; first | done | with_reducible rfl)
      simp only [sX1, sX2, sX3]
      clear d0e d1e d0f d1f
      clear dop d0p d1p
      refine stepL 6 (by kernel_rfl) rfl (fun K hK => ?_)
      go_simp
      refine (times_b (w := w5) Vf.out Vp.out Sf.out Sp.out (by omega)).mono ?_
      rintro e w6 ⟨s_t, a_t, n_t, c_t, rfl, h_t, hB⟩
      have Vt := hZ h_t
      replace HBr := hZ (HBr.out.trans (Only.of_below hB))
      replace Rr := hZ (Rr.out.blw hB)
      replace Rp := hZ (Rp.out.blw hB)
      replace Oc := hZ (Oc.out.blw hB)
      replace Fh := hZ (Fh.out.blw hB)
      replace Op := hZ (Op.out.blw hB)
      replace Fd := hZ (Fd.out.blw hB)
      replace Ff := hZ (Ff.out.blw hB)
      replace Fe := hZ (Fe.out.blw hB)
      replace Ve := hZ (Ve.out.blw hB)
      replace Vf := hZ (Vf.out.blw hB)
      replace Vp := hZ (Vp.out.blw hB)
      replace HO := hZ (HO.out.blw hB)
      clear hB
      clear h_t
      refine hK.out _ _ HBr.out (fun hHeld => ?_)
      clear hK K
      try simp only [Act.put, sX1, sX2, sX3]
      refine stepL 7 (by kernel_rfl) rfl (fun K hK => ?_)
      go_simp
      refine (minus_b (w := w6) (k := 8000) Ve.out Vt.out (Sh.out.mul Sr.out) (Sf.out.mul Sp.out) (by omega)).mono ?_
      rintro e w7 ⟨s_u, a_u, n_u, c_u, rfl, h_u, hB⟩
      have Vu := hZ h_u
      replace HBr := hZ (HBr.out.trans (Only.of_below hB))
      replace Rr := hZ (Rr.out.blw hB)
      replace Rp := hZ (Rp.out.blw hB)
      replace Oc := hZ (Oc.out.blw hB)
      replace Fh := hZ (Fh.out.blw hB)
      replace Op := hZ (Op.out.blw hB)
      replace Fd := hZ (Fd.out.blw hB)
      replace Ff := hZ (Ff.out.blw hB)
      replace Fe := hZ (Fe.out.blw hB)
      replace Ve := hZ (Ve.out.blw hB)
      replace Vf := hZ (Vf.out.blw hB)
      replace Vp := hZ (Vp.out.blw hB)
      replace Vt := hZ (Vt.out.blw hB)
      replace HO := hZ (HO.out.blw hB)
      clear hB
      clear h_u
      refine hK.out _ _ HBr.out (fun hHeld => ?_)
      clear hK K
      try simp only [Act.put, sX1, sX2, sX3]
      obtain ⟨s_9, a_9, n_9, c_9, t_9, -⟩ := Fe.out
      have e0 := t_9.cell0
      have e1 := t_9.cell1
      have e2 := t_9.frozen 0
      have e3 := t_9.frozen 1
      clear t_9
      have hn9 : NoInt w7 (be) := Fe.out.noInt
      obtain ⟨w8, hw⟩ : ∃ w', (w7.setCell ⟨be, 0, none⟩ (.bool s_u)).setCell ⟨be, 1, none⟩ (.slice a_u n_u c_u) = w' := ⟨_, rfl⟩
      have hw2 : st2 w7 (be) (0) (1) s_u a_u n_u c_u = w8 := hw
      replace Fe := hZ (Bx.put Fe.out Vu.out)
      rw [hw2] at Fe
      replace Rr := hZ (Rr.out.offe hw2 hn9 (by have := Hlt1.out; omega))
      replace Rp := hZ (Rp.out.offe hw2 hn9 (by have := Hlt1.out; omega))
      replace Oc := hZ (Oc.out.offe hw2 (by have := Hlt1.out; omega))
      replace Fh := hZ (Fh.out.offe hw2 hn9 (by have := Hlt1.out; omega))
      replace Op := hZ (Op.out.offe hw2 (by have := Hlt1.out; omega))
      replace Fd := hZ (Fd.out.offe hw2 hn9 (by have := Hlt1.out; omega))
      replace Ff := hZ (Ff.out.offe hw2 hn9 (by have := Hlt1.out; omega))
      replace Ve := hZ (Ve.out.offe hw2 hn9)
      replace Vf := hZ (Vf.out.offe hw2 hn9)
      replace Vp := hZ (Vp.out.offe hw2 hn9)
      replace Vt := hZ (Vt.out.offe hw2 hn9)
      replace Vu := hZ (Vu.out.offe hw2 hn9)
      replace HO := hZ (HO.out.offe hw2 (Or.inr (by have := Hlt1.out; omega)))
      clear hw2 hn9
      refine lateL 8 (by kernel_rfl) (by decide) rfl (fun K hK => ?_)
      go_simp
      try rw [hw]
      refine hK.out _ _ ?_
      clear hK K
      try simp only [Act.put, sX1, sX2, sX3]
      clear hw e0 e1 e2 e3
      refine doneL (by kernel_rfl) ?_ _
      clear hHeld
      obtain ⟨E, hE⟩ : ∃ E, h * r - f * p = E := ⟨_, rfl⟩
      replace Fe : Hid (Bx w8 be E) := hZ (by have h1 := Fe.out; rw [← hE]; exact h1)
      have HE := hZ hE
      clear hE
      have SE : Hid (Sz 8001 E) := hZ (by rw [← HE.out]; exact (Sh.out.mul Sr.out).sub (Sf.out.mul Sp.out))
      obtain ⟨s_e, a_e, n_e, c_e, t_e, h_e⟩ := Fe.out
      have d0e := t_e.cell0
      have d1e := t_e.cell1
      have Ve := hZ h_e
      clear t_e h_e
      go_wp2_with fail
      clear d0e d1e
      by_cases hE0 : E = 0
      ·skip
       refine (sign_b (w := w8) Ve.out SE.out (by omega)).mono ?_
       rintro e w9 ⟨he, hB⟩
       rw [show cmp3 E 0 = 0 by rw [hE0]; exact cmp3_eq 0] at he
       subst he
       replace Rr := hZ (Rr.out.blw hB)
       replace Rp := hZ (Rp.out.blw hB)
       replace Oc := hZ (Oc.out.blw hB)
       replace Fh := hZ (Fh.out.blw hB)
       replace Op := hZ (Op.out.blw hB)
       replace Fd := hZ (Fd.out.blw hB)
       replace Ff := hZ (Ff.out.blw hB)
       replace Fe := hZ (Fe.out.blw hB)
       replace Ve := hZ (Ve.out.blw hB)
       replace Vf := hZ (Vf.out.blw hB)
       replace Vp := hZ (Vp.out.blw hB)
       replace Vt := hZ (Vt.out.blw hB)
       replace Vu := hZ (Vu.out.blw hB)
       replace HO := hZ (HO.out.blw hB)
       clear hB
       clear Ve
       obtain ⟨s_v, a_v, n_v, c_v, t_v, h_v⟩ := Fe.out
       have d0v := t_v.cell0
       have d1v := t_v.cell1
       have Vv := hZ h_v
       clear t_v h_v
       obtain ⟨s_9, a_9, n_9, c_9, e0, e1, -⟩ := Rr.out.get (j) Hjr.out
       have e2 := Rr.out.frozen (j * 2)
       have e3 := Rr.out.frozen (j * 2 + 1)
       have hn9 : NoInt w9 (g) := Rr.out.noInt
       obtain ⟨w10, hw⟩ : ∃ w', (w9.setCell ⟨g, j * 2, none⟩ (.bool s_v)).setCell ⟨g, j * 2 + 1, none⟩ (.slice a_v n_v c_v) = w' := ⟨_, rfl⟩
       have hw2 : st2 w9 (g) (j * 2) (j * 2 + 1) s_v a_v n_v c_v = w10 := hw
       replace Rr := hZ (WRow.put' Rr.out (j) Hjr.out Vv.out)
       rw [hw2] at Rr
       replace Rp := hZ (Rp.out.offe hw2 hn9 (by have := Hne.out; have := Hlt1.out; have := Hbf.out; have := Hlt0.out; omega))
       replace Oc := hZ (Oc.out.offe hw2 (by have := Hne.out; have := Hlt1.out; have := Hbf.out; have := Hlt0.out; omega))
       replace Fh := hZ (Fh.out.offe hw2 hn9 (by have := Hne.out; have := Hlt1.out; have := Hbf.out; have := Hlt0.out; omega))
       replace Op := hZ (Op.out.offe hw2 (by have := Hne.out; have := Hlt1.out; have := Hbf.out; have := Hlt0.out; omega))
       replace Fd := hZ (Fd.out.offe hw2 hn9 (by have := Hne.out; have := Hlt1.out; have := Hbf.out; have := Hlt0.out; omega))
       replace Ff := hZ (Ff.out.offe hw2 hn9 (by have := Hne.out; have := Hlt1.out; have := Hbf.out; have := Hlt0.out; omega))
       replace Fe := hZ (Fe.out.offe hw2 hn9 (by have := Hne.out; have := Hlt1.out; have := Hbf.out; have := Hlt0.out; omega))
       replace Vf := hZ (Vf.out.offe hw2 hn9)
       replace Vp := hZ (Vp.out.offe hw2 hn9)
       replace Vt := hZ (Vt.out.offe hw2 hn9)
       replace Vu := hZ (Vu.out.offe hw2 hn9)
       replace Vv := hZ (Vv.out.offe hw2 hn9)
       replace HO := hZ (HO.out.offe hw2 (Or.inl rfl))
       clear hw2 hn9
       go_wp2_with fail
       clear d0v d1v
       clear hw e0 e1 e2 e3
       have hz : (oprL h f d zs ps)[j]'(by have := HTl.out; omega) = E := by rw [oprL_at _ Hjz.out Hjp.out, Hr.out, Hp.out, HE.out]; rw [hE0]; simp
       replace Rr : Hid (WRow w10 g ((oprL h f d zs ps).take (j + 1) ++ zs.drop (j + 1))) := hZ (by have h1 := Rr.out; rw [← hz, td_set Htl.out Hjz.out] at h1; exact h1)
       clear hz
       go_roundw
       case rel => exact ⟨j + 1, by omega, by go_num, Rr, Rp, Oc, Fh, Op, Fd, Ff, HO⟩
       case measure => simp [intOf]; omega
      ·skip
       refine (sign_b (w := w8) Ve.out SE.out (by omega)).mono ?_
       rintro e w9 ⟨he, hB⟩
       obtain ⟨sge, hs9, q0e, q1e⟩ := cmp3_nz (x := E) hE0
       rw [hs9] at he
       subst he
       clear hs9
       replace Rr := hZ (Rr.out.blw hB)
       replace Rp := hZ (Rp.out.blw hB)
       replace Oc := hZ (Oc.out.blw hB)
       replace Fh := hZ (Fh.out.blw hB)
       replace Op := hZ (Op.out.blw hB)
       replace Fd := hZ (Fd.out.blw hB)
       replace Ff := hZ (Ff.out.blw hB)
       replace Fe := hZ (Fe.out.blw hB)
       replace Ve := hZ (Ve.out.blw hB)
       replace Vf := hZ (Vf.out.blw hB)
       replace Vp := hZ (Vp.out.blw hB)
       replace Vt := hZ (Vt.out.blw hB)
       replace Vu := hZ (Vu.out.blw hB)
       replace HO := hZ (HO.out.blw hB)
       clear hB
       clear Ve
       obtain ⟨s_e, a_e, n_e, c_e, t_e, h_e⟩ := Fe.out
       have d0e := t_e.cell0
       have d1e := t_e.cell1
       have Ve := hZ h_e
       clear t_e h_e
       obtain ⟨s_d, a_d, n_d, c_d, t_d, h_d⟩ := Fd.out
       have d0d := t_d.cell0
       have d1d := t_d.cell1
       have Vd := hZ h_d
       clear t_d h_d
       go_wp2_with fail
       clear d0e d1e d0d d1d
       clear q0e q1e
       refine (over_b (w := w9) Ve.out Vd.out SE.out Sd.out hd (by omega) (by omega)).mono ?_
       rintro e w10 ⟨s_q, a_q, n_q, c_q, rfl, h_q, hB⟩
       have Vq := hZ h_q
       replace Rr := hZ (Rr.out.blw hB)
       replace Rp := hZ (Rp.out.blw hB)
       replace Oc := hZ (Oc.out.blw hB)
       replace Fh := hZ (Fh.out.blw hB)
       replace Op := hZ (Op.out.blw hB)
       replace Fd := hZ (Fd.out.blw hB)
       replace Ff := hZ (Ff.out.blw hB)
       replace Fe := hZ (Fe.out.blw hB)
       replace Vf := hZ (Vf.out.blw hB)
       replace Vp := hZ (Vp.out.blw hB)
       replace Vt := hZ (Vt.out.blw hB)
       replace Vu := hZ (Vu.out.blw hB)
       replace Ve := hZ (Ve.out.blw hB)
       replace Vd := hZ (Vd.out.blw hB)
       replace HO := hZ (HO.out.blw hB)
       clear hB
       clear h_q
       obtain ⟨s_9, a_9, n_9, c_9, t_9, -⟩ := Fe.out
       have e0A := t_9.cell0
       have e1A := t_9.cell1
       have e2A := t_9.frozen 0
       have e3A := t_9.frozen 1
       clear t_9
       have hn9 : NoInt w10 (be) := Fe.out.noInt
       obtain ⟨w11, hwA⟩ : ∃ w', (w10.setCell ⟨be, 0, none⟩ (.bool s_q)).setCell ⟨be, 1, none⟩ (.slice a_q n_q c_q) = w' := ⟨_, rfl⟩
       have hw2 : st2 w10 (be) (0) (1) s_q a_q n_q c_q = w11 := hwA
       replace Fe := hZ (Bx.put Fe.out Vq.out)
       rw [hw2] at Fe
       replace Rr := hZ (Rr.out.offe hw2 hn9 (by have := Hlt1.out; omega))
       replace Rp := hZ (Rp.out.offe hw2 hn9 (by have := Hlt1.out; omega))
       replace Oc := hZ (Oc.out.offe hw2 (by have := Hlt1.out; omega))
       replace Fh := hZ (Fh.out.offe hw2 hn9 (by have := Hlt1.out; omega))
       replace Op := hZ (Op.out.offe hw2 (by have := Hlt1.out; omega))
       replace Fd := hZ (Fd.out.offe hw2 hn9 (by have := Hlt1.out; omega))
       replace Ff := hZ (Ff.out.offe hw2 hn9 (by have := Hlt1.out; omega))
       replace Vf := hZ (Vf.out.offe hw2 hn9)
       replace Vp := hZ (Vp.out.offe hw2 hn9)
       replace Vt := hZ (Vt.out.offe hw2 hn9)
       replace Vu := hZ (Vu.out.offe hw2 hn9)
       replace Ve := hZ (Ve.out.offe hw2 hn9)
       replace Vd := hZ (Vd.out.offe hw2 hn9)
       replace Vq := hZ (Vq.out.offe hw2 hn9)
       replace HO := hZ (HO.out.offe hw2 (Or.inr (by have := Hlt1.out; omega)))
       clear hw2 hn9
       obtain ⟨s_v, a_v, n_v, c_v, t_v, h_v⟩ := Fe.out
       have d0v := t_v.cell0
       have d1v := t_v.cell1
       have Vv := hZ h_v
       clear t_v h_v
       obtain ⟨s_9, a_9, n_9, c_9, e0B, e1B, -⟩ := Rr.out.get (j) Hjr.out
       have e2B := Rr.out.frozen (j * 2)
       have e3B := Rr.out.frozen (j * 2 + 1)
       have hn9 : NoInt w11 (g) := Rr.out.noInt
       obtain ⟨w12, hwB⟩ : ∃ w', (w11.setCell ⟨g, j * 2, none⟩ (.bool s_v)).setCell ⟨g, j * 2 + 1, none⟩ (.slice a_v n_v c_v) = w' := ⟨_, rfl⟩
       have hw2 : st2 w11 (g) (j * 2) (j * 2 + 1) s_v a_v n_v c_v = w12 := hwB
       replace Rr := hZ (WRow.put' Rr.out (j) Hjr.out Vv.out)
       rw [hw2] at Rr
       replace Rp := hZ (Rp.out.offe hw2 hn9 (by have := Hne.out; have := Hlt1.out; have := Hbf.out; have := Hlt0.out; omega))
       replace Oc := hZ (Oc.out.offe hw2 (by have := Hne.out; have := Hlt1.out; have := Hbf.out; have := Hlt0.out; omega))
       replace Fh := hZ (Fh.out.offe hw2 hn9 (by have := Hne.out; have := Hlt1.out; have := Hbf.out; have := Hlt0.out; omega))
       replace Op := hZ (Op.out.offe hw2 (by have := Hne.out; have := Hlt1.out; have := Hbf.out; have := Hlt0.out; omega))
       replace Fd := hZ (Fd.out.offe hw2 hn9 (by have := Hne.out; have := Hlt1.out; have := Hbf.out; have := Hlt0.out; omega))
       replace Ff := hZ (Ff.out.offe hw2 hn9 (by have := Hne.out; have := Hlt1.out; have := Hbf.out; have := Hlt0.out; omega))
       replace Fe := hZ (Fe.out.offe hw2 hn9 (by have := Hne.out; have := Hlt1.out; have := Hbf.out; have := Hlt0.out; omega))
       replace Vf := hZ (Vf.out.offe hw2 hn9)
       replace Vp := hZ (Vp.out.offe hw2 hn9)
       replace Vt := hZ (Vt.out.offe hw2 hn9)
       replace Vu := hZ (Vu.out.offe hw2 hn9)
       replace Ve := hZ (Ve.out.offe hw2 hn9)
       replace Vd := hZ (Vd.out.offe hw2 hn9)
       replace Vq := hZ (Vq.out.offe hw2 hn9)
       replace Vv := hZ (Vv.out.offe hw2 hn9)
       replace HO := hZ (HO.out.offe hw2 (Or.inl rfl))
       clear hw2 hn9
       go_wp2_with fail
       clear d0v d1v
       clear hwA e0A e1A e2A e3A hwB e0B e1B e2B e3B
       have hz : (oprL h f d zs ps)[j]'(by have := HTl.out; omega) = E / d := by rw [oprL_at _ Hjz.out Hjp.out, Hr.out, Hp.out, HE.out]
       replace Rr : Hid (WRow w12 g ((oprL h f d zs ps).take (j + 1) ++ zs.drop (j + 1))) := hZ (by have h1 := Rr.out; rw [← hz, td_set Htl.out Hjz.out] at h1; exact h1)
       clear hz
       go_roundw
       case rel => exact ⟨j + 1, by omega, by go_num, Rr, Rp, Oc, Fh, Op, Fd, Ff, HO⟩
       case measure => simp [intOf]; omega
  ·skip
   obtain rfl : j = n := by omega
   replace Rr : Hid (WRow w1 g (oprL h f d zs ps)) := hZ (by have h1 := Rr.out; have h2 := HTl.out; have h3 := Hzs.out; rw [List.take_of_length_le (by omega), List.drop_eq_nil_of_le (by omega), List.append_nil] at h1; exact h1)
   go_wp2_with fail
   go_end0
   exact ⟨⟨_, rfl⟩, Rr.out, HO.out⟩
end Go.Proofs.Ytlmbebbdamgfpaa
