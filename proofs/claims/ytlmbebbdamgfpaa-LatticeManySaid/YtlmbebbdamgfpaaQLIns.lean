/- lattice.insert. -/
import Derived.Test.YtlmbebbdamgfpaaQLComb
import Derived.Test.YtlmbebbdamgfpaaQLRows
import Derived.Test.YtlmbebbdamgfpaaQLRedP
set_option linter.unusedVariables false
set_option linter.unusedSimpArgs false
set_option linter.unusedVariables false
set_option linter.unusedSimpArgs false
namespace Go.Proofs.Ytlmbebbdamgfpaa
open Go.RowKit

/-- the blocks that insert turns -/
def InsS (ga : Nat) (l : List Rw) (b : Nat) : Prop := b = ga ∨ ∃ i, ∃ h : i < l.length, b = l[i].1
theorem sz_bd {m z : Int} (sm : Sz 4000 m) (h : 0 ≤ z ∧ z ≤ m) : Sz 4000 z := sm.of_le (by omega)

set_option maxRecDepth 100000 in
set_option maxHeartbeats 16000000 in
theorem insert_any (w0 : World) (R ga n cR c2 : Nat) (l : List Rw) (sq : List (List Int)) (as0 : List Int) (vm : Value) (m : Int) (h : RwAt w0 R l n sq) (hln : l.length = n) (ha : WRow w0 ga as0) (hal : as0.length = n) (hn : n ≤ 1000) (hcR : n ≤ cR) (hcR2 : cR ≤ 9223372036854775807) (hc2 : n ≤ c2) (hc2' : c2 ≤ 9223372036854775807)
 (hvm : WInt w0 vm m) (hm0 : 0 < m) (sm : Sz 4000 m) (ht : TriL m n 0 (sq.map vec)) (hb : ∀ r ∈ sq, Bd m r) (hba : Bd m as0) (hne : ga ≠ R ∧ ∀ i (h : i < l.length), l[i].1 ≠ ga) :
 Calls Try.prog 78 #[.slice (some ⟨R, 0, none⟩) n cR, .slice (some ⟨ga, 0, none⟩) n c2, vm] w0 fun e w' => (∃ v, e = .returned v) ∧ ∃ sq', Ins m n 0 (sq.map vec) (vec as0) (sq'.map vec) ∧ RwAt w' R l n sq' ∧ (∀ r ∈ sq', Bd m r) ∧ Only (InsS ga l) w0 w' := by
 obtain ⟨s_m, a_m, n_m, c_m, rfl⟩ := hvm.form4
 have Vm := hZ hvm
 have RS := hZ h
 have Ra := hZ ha
 have HO := hZ (Only.refl (InsS ga l) w0)
 have HI := hZ (InsL.start (n := n) hb hba hal)
 have HT := hZ ht
 have Sm := hZ sm
 have Hsl : Hid (sq.length = n) := hZ (by have := h.len; omega)
 have HW : Hid (ga < w0.heap.size ∧ R < w0.heap.size ∧ ∀ i (hi : i < l.length), l[i].1 < w0.heap.size) := hZ ⟨ha.lt, h.lt, h.rows.lt⟩
 have Hne := hZ hne
 have Hln := hZ hln
 clear h ha hvm ht hb hba sm hne hal hln
 obtain ⟨w1, hw1⟩ : ∃ w', w0.alloc (.cells #[.slice (some ⟨ga, 0, none⟩) n c2] 55) = w' := ⟨_, rfl⟩
 have hB : Below w0.heap.size w0 w1 := by rw [← hw1]; exact (Below.refl _ _).alloc (Nat.le_refl _) _
 obtain ⟨ba, hb1⟩ : ∃ b, w0.heap.size = b := ⟨_, rfl⟩
 have Oa' : Hid (One w1 ba 55 (.slice (some ⟨ga, 0, none⟩) n c2)) := hZ (by rw [← hw1, ← hb1]; exact One.new _ _ _)
 have Hba : Hid (w0.heap.size ≤ ba) := hZ (by omega)
 replace Vm := hZ (Vm.out.blw hB)
 replace RS := hZ (RS.out.blw hB)
 replace Ra := hZ (Ra.out.blw hB)
 replace HO := hZ (HO.out.blw hB)
 clear hB
 have Oa := Oa'
 clear Oa'
 have hlb := Oa.out.lt
 obtain ⟨w2, hw⟩ : ∃ w', (w1.alloc (.cells #[.bool s_m, .slice a_m n_m c_m] 58)) = w' := ⟨_, rfl⟩
 have hB : Below w1.heap.size w1 w2 := by rw [← hw]; exact (Below.refl _ _).alloc (Nat.le_refl _) _
 obtain ⟨bm, hb_bm⟩ : ∃ b, w1.heap.size = b := ⟨_, rfl⟩
 have h9 := Bx.new (w := w1) Vm.out
 rw [hw, hb_bm] at h9
 have Fm' := hZ h9
 have hge_bm : w1.heap.size ≤ bm := by omega
 clear h9
 replace Vm := hZ (Vm.out.blw hB)
 replace RS := hZ (RS.out.blw hB)
 replace Ra := hZ (Ra.out.blw hB)
 replace Oa := hZ (Oa.out.blw hB)
 replace HO := hZ (HO.out.blw hB)
 have Fm := Fm'
 clear Fm'
 clear hB
 have Hbm : Hid (ba < bm) := hZ (by omega)
 clear hlb hge_bm
 go_enter Try.func78, Try.ntmps78
 go_wp2_with fail
 clear hw hw1 hb1 hb_bm
 clear Vm
 go_loopw [23] (fun i wr => ∃ (j : Nat) (sq1 : List (List Int)) (as1 : List Int), j ≤ n ∧ i = .int .i64 j ∧ Hid (InsL m n sq as0 j sq1 as1) ∧ Hid (RwAt wr R l n sq1) ∧ Hid (WRow wr ga as1) ∧ Hid (One wr ba 55 (.slice (some ⟨ga, 0, none⟩) n c2)) ∧ Hid (Bx wr bm m) ∧ Hid (Only (InsS ga l) w0 wr)) (fun i _ => n - (intOf i).toNat)
 case atStart => exact ⟨0, sq, as0, by omega, rfl, HI, RS, Ra, Oa, Fm, HO⟩
 case round =>
  clear HI RS Ra Oa Fm HO
  obtain ⟨j, sq1, as1, hj, rfl, HI, RS, Ra, Oa, Fm, HO⟩ := hrel
  obtain ⟨w2, rfl⟩ : ∃ w' : World, w' = wr := ⟨_, rfl⟩
  by_cases hlt : j < n
  ·as_aux_lemma =>
   have i1 : (0 : Int) ≤ (j : Int) := by omega
   have i2 : (j : Int) < (n : Int) := by omega
   have hjl : j < l.length := by rw [Hln.out]; exact hlt
   have hjs : j < sq1.length := by rw [RS.out.len]; exact hjl
   have hjs0 : j < sq.length := by have := HI.out.len; omega
   obtain ⟨row, hrow⟩ : ∃ r, sq1[j] = r := ⟨_, rfl⟩
   have HRow := hZ hrow
   obtain ⟨hr1, hr2⟩ := RS.out.rows.row j hjl
   rw [hrow] at hr1 hr2
   obtain ⟨t1, t2, -⟩ := HT.out.at_ j (by simpa using hjs0)
   rw [List.getElem_map, ← HI.out.rest j hjs hjs0 (Nat.le_refl _), hrow, Nat.zero_add] at t1 t2
   have HR0 := hZ t1
   have HP := hZ t2
   have Hrl := hZ hr2
   have Hal := hZ HI.out.alen
   have Hjr : Hid (j < row.length) := hZ (by omega)
   have Hja : Hid (j < as1.length) := hZ (by have := Hal.out; omega)
   obtain ⟨g, hg⟩ : ∃ g, l[j].1 = g := ⟨_, rfl⟩
   obtain ⟨c1, hc1⟩ : ∃ c, l[j].2 = c := ⟨_, rfl⟩
   have x0 := RS.out.get j hjl
   rw [hg, hc1] at x0
   rw [hg] at hr1
   have hcc := RS.out.rows.cap j hjl
   rw [hc1] at hcc
   obtain ⟨hc1a, hc1b⟩ := hcc
   have HG := hZ hg
   clear hg hc1 hr2 t1 t2 hrow hr1
   have HWg : Hid (g < w0.heap.size ∧ g ≠ ga ∧ R ≠ g) := hZ (by rw [← HG.out]; exact ⟨HW.out.2.2 j hjl, Hne.out.2 j hjl, fun e => RS.out.apart j hjl e.symm⟩)
   have HBr1 : Hid (Bd m row) := hZ (HRow.out ▸ HI.out.bd _ (List.getElem_mem _))
   have hlm := Fm.out.lt
   obtain ⟨w3, hw⟩ : ∃ w', w2.alloc (.cells #[.slice (some ⟨g, 0, none⟩) n c1] 55) = w' := ⟨_, rfl⟩
   have hB : Below w2.heap.size w2 w3 := by rw [← hw]; exact (Below.refl _ _).alloc (Nat.le_refl _) _
   obtain ⟨br, hb1⟩ : ∃ b, w2.heap.size = b := ⟨_, rfl⟩
   have Oq' : Hid (One w3 br 55 (.slice (some ⟨g, 0, none⟩) n c1)) := hZ (by rw [← hw, ← hb1]; exact One.new _ _ _)
   have Hbr : Hid (bm < br) := hZ (by omega)
   clear hlm
   replace RS := hZ (RS.out.blw hB)
   replace Ra := hZ (Ra.out.blw hB)
   replace Oa := hZ (Oa.out.blw hB)
   replace Fm := hZ (Fm.out.blw hB)
   replace HO := hZ (HO.out.blw hB)
   clear hB
   have Oq := Oq'
   clear Oq'
   have doa := Oa.out.cell
   obtain ⟨s_y, a_y, n_y, c_y, d0y, d1y, h_y⟩ := Ra.out.get j Hja.out
   obtain ⟨y, hy⟩ : ∃ y, as1[j]'Hja.out = y := ⟨_, rfl⟩
   rw [hy] at h_y
   have Vy := hZ h_y
   have Hy := hZ hy
   have HBy : Hid (0 ≤ y ∧ y ≤ m) := hZ (hy ▸ HI.out.bda _ (List.getElem_mem _))
   have Sy : Hid (Sz 4000 y) := hZ (sz_bd Sm.out HBy.out)
   clear h_y hy
   go_wp2_with fail
   clear hw hb1 x0 d0y d1y
   by_cases hy0 : y = 0
   ·as_aux_lemma =>
    refine (sign_b (w := w3) Vy.out Sy.out (by omega)).mono ?_
    rintro e w4 ⟨he, hB⟩
    rw [show cmp3 y 0 = 0 by rw [hy0]; exact cmp3_eq 0] at he
    subst he
    replace RS := hZ (RS.out.blw hB)
    replace Ra := hZ (Ra.out.blw hB)
    replace Oa := hZ (Oa.out.blw hB)
    replace Fm := hZ (Fm.out.blw hB)
    replace Oq := hZ (Oq.out.blw hB)
    replace Vy := hZ (Vy.out.blw hB)
    replace HO := hZ (HO.out.blw hB)
    clear hB
    go_wp2_with fail
    have HV : vec as1 j = 0 := by rw [vec_at Hja.out, Hy.out]; exact hy0
    go_roundw
    case rel => exact ⟨j + 1, sq1, as1, by omega, by go_num, hZ (HI.out.same hjs (by rw [HRow.out]; exact ins_skip HR0.out HP.out (fun k hk => by rcases Nat.lt_or_ge k j with h | h; exact HI.out.low k h; rw [show k = j by omega]; exact HV) Hrl.out Hal.out hlt) HV), RS, Ra, Oa, Fm, HO⟩
    case measure => simp [intOf]; omega
   ·as_aux_lemma =>
    refine (sign_b (w := w3) Vy.out Sy.out (by omega)).mono ?_
    rintro e w4 ⟨he, hB⟩
    obtain ⟨sgy, hs9, q0y, q1y⟩ := cmp3_nz (x := y) hy0
    rw [hs9] at he
    subst he
    clear hs9
    replace RS := hZ (RS.out.blw hB)
    replace Ra := hZ (Ra.out.blw hB)
    replace Oa := hZ (Oa.out.blw hB)
    replace Fm := hZ (Fm.out.blw hB)
    replace Oq := hZ (Oq.out.blw hB)
    replace Vy := hZ (Vy.out.blw hB)
    replace HO := hZ (HO.out.blw hB)
    clear hB
    go_wp2_with fail
    clear Vy
    clear q0y q1y doa
    have Rr : Hid (WRow w4 g row) := hZ (by have h1 := (RS.out.rows.row j hjl).1; rw [HG.out, HRow.out] at h1; exact h1)
    have RX := hZ (RS.out.x j)
    clear RS
    obtain ⟨x, hx⟩ : ∃ x, row[j]'Hjr.out = x := ⟨_, rfl⟩
    have Hx := hZ hx
    have HBx : Hid (0 ≤ x ∧ x ≤ m) := hZ (hx ▸ HBr1.out _ (List.getElem_mem _))
    have Sx : Hid (Sz 4000 x) := hZ (sz_bd Sm.out HBx.out)
    have hx0 : 0 < x := by have h1 := HP.out; rw [vec_at Hjr.out, hx] at h1; exact h1
    have hyp : 0 < y := by have := HBy.out; omega
    clear hx
    have hlr := Oq.out.lt
    refine wp_join (fun t ds a w' => ∃ v34 v35 v36 v37 v38 v39 v40 v41 b8 b9, a = ⟨((((((((((t).setIfInBounds 8 (.pointer (some ⟨b8, 0, none⟩))).setIfInBounds 9 (.pointer (some ⟨b9, 0, none⟩))).setIfInBounds 34 v34).setIfInBounds 35 v35).setIfInBounds 36 v36).setIfInBounds 37 v37).setIfInBounds 38 v38).setIfInBounds 39 v39).setIfInBounds 40 v40).setIfInBounds 41 v41, ds⟩ ∧ Hid (Bx w' b8 x) ∧ Hid (Bx w' b9 y) ∧ Hid (Below w4.heap.size w4 w') ∧ Hid (b8 ≠ b9 ∧ w4.heap.size ≤ b8 ∧ w4.heap.size ≤ b9)) ?_ ?_
    ·as_aux_lemma =>
     have HJ := hZ (Below.refl w4.heap.size w4)
     obtain ⟨w5, hwd⟩ : ∃ w', w4.drew = w' := ⟨_, rfl⟩
     have hB : Below w4.heap.size w4 w5 := by rw [← hwd]; exact (Below.refl _ _).drew
     replace Rr := hZ (Rr.out.blw hB)
     replace Ra := hZ (Ra.out.blw hB)
     replace Oq := hZ (Oq.out.blw hB)
     replace Oa := hZ (Oa.out.blw hB)
     replace HJ := hZ (HJ.out.trans (hB.mono HJ.out.size))
     clear hB
     have HBr : Hid (Only (fun b => w5.heap.size ≤ b) w5 w5) := hZ (Only.refl _ _)
     refine startL [11] (fun w' => Only (fun b => w5.heap.size ≤ b) w5 w') (by kernel_rfl) (by rw [hwd]; exact Only.refl _ _) (fun hHeld => ?_)
     rw [hwd] at hHeld ⊢
     clear hwd
     obtain ⟨s_x, a_x, n_x, c_x, d0x, d1x, h_x⟩ := Rr.out.get j Hjr.out
     rw [Hx.out] at h_x
     have Vx := hZ h_x
     clear h_x
     obtain ⟨s_y, a_y, n_y, c_y, d0y, d1y, h_y⟩ := Ra.out.get j Hja.out
     rw [Hy.out] at h_y
     have Vy := hZ h_y
     clear h_y
     have dor := Oq.out.cell
     have doa := Oa.out.cell
     refine takeL 0 34 (v := ?_) rfl rfl (by kernel_rfl) (by kernel_rfl) (by kernel_rfl) (by kernel_rfl) (by kernel_rfl) (fun _ _ _ h => h) (by rfl) ?_ (by assumption) ?_
     rotate_left
     ·(intro w hSw; have x0 := (hSw.cell (p := ⟨br, 0, none⟩) (Nat.not_le_of_lt Oq.out.lt) Oq.out.lt).trans dor; go_simp; first | done | with_reducible rfl)
     simp only [sX1, sX2, sX3]
     refine pureL 1 35 (v := ?_) rfl rfl (by kernel_rfl) (by kernel_rfl) (by kernel_rfl) (fun _ _ _ h => h) (by rfl) ?_ ?_
     rotate_left
     ·(intro w; go_simp; first | done | with_reducible rfl)
     simp only [sX1, sX2, sX3]
     refine pureL 2 36 (v := ?_) rfl rfl (by kernel_rfl) (by kernel_rfl) (by kernel_rfl) (fun _ _ _ h => h) (by rfl) ?_ ?_
     rotate_left
     ·(intro w; go_simp; first | done | with_reducible rfl)
     simp only [sX1, sX2, sX3]
     refine takeL 3 37 (v := ?_) rfl rfl (by kernel_rfl) (by kernel_rfl) (by kernel_rfl) (by kernel_rfl) (by kernel_rfl) (fun _ _ _ h => h) (by rfl) ?_ (by assumption) ?_
     rotate_left
     ·(intro w hSw; have x0 := (hSw.cell (p := ⟨g, j * 2, none⟩) (Nat.not_le_of_lt Rr.out.lt) Rr.out.lt).trans d0x; have x1 := (hSw.cell (p := ⟨g, j * 2 + 1, none⟩) (Nat.not_le_of_lt Rr.out.lt) Rr.out.lt).trans d1x; go_simp; first | done | with_reducible rfl)
     simp only [sX1, sX2, sX3]
     refine takeL 4 38 (v := ?_) rfl rfl (by kernel_rfl) (by kernel_rfl) (by kernel_rfl) (by kernel_rfl) (by kernel_rfl) (fun _ _ _ h => h) (by rfl) ?_ (by assumption) ?_
     rotate_left
     ·(intro w hSw; have x0 := (hSw.cell (p := ⟨ba, 0, none⟩) (Nat.not_le_of_lt Oa.out.lt) Oa.out.lt).trans doa; go_simp; first | done | with_reducible rfl)
     simp only [sX1, sX2, sX3]
     refine pureL 5 39 (v := ?_) rfl rfl (by kernel_rfl) (by kernel_rfl) (by kernel_rfl) (fun _ _ _ h => h) (by rfl) ?_ ?_
     rotate_left
     ·(intro w; go_simp; first | done | with_reducible rfl)
     simp only [sX1, sX2, sX3]
     refine pureL 6 40 (v := ?_) rfl rfl (by kernel_rfl) (by kernel_rfl) (by kernel_rfl) (fun _ _ _ h => h) (by rfl) ?_ ?_
     rotate_left
     ·(intro w; go_simp; first | done | with_reducible rfl)
     simp only [sX1, sX2, sX3]
     refine takeL 7 41 (v := ?_) rfl rfl (by kernel_rfl) (by kernel_rfl) (by kernel_rfl) (by kernel_rfl) (by kernel_rfl) (fun _ _ _ h => h) (by rfl) ?_ (by assumption) ?_
     rotate_left
     ·(intro w hSw; have x0 := (hSw.cell (p := ⟨ga, j * 2, none⟩) (Nat.not_le_of_lt Ra.out.lt) Ra.out.lt).trans d0y; have x1 := (hSw.cell (p := ⟨ga, j * 2 + 1, none⟩) (Nat.not_le_of_lt Ra.out.lt) Ra.out.lt).trans d1y; go_simp; first | done | with_reducible rfl)
     simp only [sX1, sX2, sX3]
     clear dor doa d0x d1x d0y d1y
     clear Rr Ra Oq Oa
     have HJs : Hid (w4.heap.size ≤ w5.heap.size) := hZ HJ.out.size
     refine forkL [8, 9] (by kernel_rfl) (by simp) ⟨forkOneL 8 rfl (fun K hK => ?_), forkOneL 9 rfl (fun K hK => ?_), trivial⟩
     ·as_aux_lemma =>
      go_simp
      obtain ⟨w6, hw⟩ : ∃ w', w5.alloc (.cells #[.bool false, .slice none 0 0] 58) = w' := ⟨_, rfl⟩
      have hB : Below w5.heap.size w5 w6 := by rw [← hw]; exact (Below.refl _ _).alloc (Nat.le_refl _) _
      obtain ⟨b8, hb⟩ : ∃ b, w5.heap.size = b := ⟨_, rfl⟩
      have Fh' : Hid (Bx w6 b8 0) := hZ (by rw [← hw, ← hb]; exact Bx.new (wint_zero _))
      have hge_b8 : w5.heap.size ≤ b8 := by rw [← hb]; exact HBr.out.size
      replace HBr := hZ (HBr.out.trans (Only.of_below hB))
      replace Vx := hZ (Vx.out.blw hB)
      replace Vy := hZ (Vy.out.blw hB)
      replace HJ := hZ (HJ.out.trans (hB.mono HJ.out.size))
      clear hB
      have Fh := Fh'
      clear Fh'
      rw [hw]
      try rw [hb]
      clear hw hb
      refine hK.out _ _ HBr.out (fun hHeld => ?_)
      clear hK K
      try simp only [Act.put, sX1, sX2, sX3]
      refine stepL 9 (by kernel_rfl) rfl (fun K hK => ?_)
      go_simp
      obtain ⟨w7, hw⟩ : ∃ w', w6.alloc (.cells #[.bool false, .slice none 0 0] 58) = w' := ⟨_, rfl⟩
      have hB : Below w6.heap.size w6 w7 := by rw [← hw]; exact (Below.refl _ _).alloc (Nat.le_refl _) _
      obtain ⟨b9, hb⟩ : ∃ b, w6.heap.size = b := ⟨_, rfl⟩
      have Fo' : Hid (Bx w7 b9 0) := hZ (by rw [← hw, ← hb]; exact Bx.new (wint_zero _))
      have hge_b9 : w5.heap.size ≤ b9 := by rw [← hb]; exact HBr.out.size
      have hne_b8_b9 : b8 < b9 := by rw [← hb]; exact Fh.out.lt
      replace HBr := hZ (HBr.out.trans (Only.of_below hB))
      replace Vx := hZ (Vx.out.blw hB)
      replace Vy := hZ (Vy.out.blw hB)
      replace Fh := hZ (Fh.out.blw hB)
      replace HJ := hZ (HJ.out.trans (hB.mono HJ.out.size))
      clear hB
      have Fo := Fo'
      clear Fo'
      rw [hw]
      try rw [hb]
      clear hw hb
      refine hK.out _ _ HBr.out (fun hHeld => ?_)
      clear hK K
      try simp only [Act.put, sX1, sX2, sX3]
      obtain ⟨s_9, a_9, n_9, c_9, t_9, -⟩ := Fh.out
      have e0 := t_9.cell0
      have e1 := t_9.cell1
      have e2 := t_9.frozen 0
      have e3 := t_9.frozen 1
      clear t_9
      have hn9 : NoInt w7 (b8) := Fh.out.noInt
      obtain ⟨w8, hw⟩ : ∃ w', (w7.setCell ⟨b8, 0, none⟩ (.bool s_x)).setCell ⟨b8, 1, none⟩ (.slice a_x n_x c_x) = w' := ⟨_, rfl⟩
      have hw2 : st2 w7 (b8) (0) (1) s_x a_x n_x c_x = w8 := hw
      replace Fh := hZ (Bx.put Fh.out Vx.out)
      rw [hw2] at Fh
      replace Vx := hZ (Vx.out.offe hw2 hn9)
      replace Vy := hZ (Vy.out.offe hw2 hn9)
      replace Fo := hZ (Fo.out.offe hw2 hn9 (by omega))
      replace HJ := hZ (below_off (g := b8) (o1 := 0) (o2 := 1) (s := s_x) (a := a_x) (n := n_x) (c := c_x) HJ.out (by have := HJs.out; omega))
      rw [hw2] at HJ
      clear hw2 hn9
      replace HBr := hZ (HBr.out.off (g := b8) (o1 := 0) (o2 := 1) (s := s_x) (a := a_x) (n := n_x) (c := c_x) (show w5.heap.size ≤ b8 from hge_b8))
      rw [show st2 w7 (b8) 0 1 s_x a_x n_x c_x = w8 from hw] at HBr
      refine stepL 10 (by kernel_rfl) rfl (fun K hK => ?_)
      go_simp
      try rw [hw]
      refine hK.out _ _ HBr.out (fun hHeld => ?_)
      clear hK K
      try simp only [Act.put, sX1, sX2, sX3]
      clear hw e0 e1 e2 e3
      obtain ⟨s_9, a_9, n_9, c_9, t_9, -⟩ := Fo.out
      have e0 := t_9.cell0
      have e1 := t_9.cell1
      have e2 := t_9.frozen 0
      have e3 := t_9.frozen 1
      clear t_9
      have hn9 : NoInt w8 (b9) := Fo.out.noInt
      obtain ⟨w9, hw⟩ : ∃ w', (w8.setCell ⟨b9, 0, none⟩ (.bool s_y)).setCell ⟨b9, 1, none⟩ (.slice a_y n_y c_y) = w' := ⟨_, rfl⟩
      have hw2 : st2 w8 (b9) (0) (1) s_y a_y n_y c_y = w9 := hw
      replace Fo := hZ (Bx.put Fo.out Vy.out)
      rw [hw2] at Fo
      replace Vx := hZ (Vx.out.offe hw2 hn9)
      replace Vy := hZ (Vy.out.offe hw2 hn9)
      replace Fh := hZ (Fh.out.offe hw2 hn9 (by omega))
      replace HJ := hZ (below_off (g := b9) (o1 := 0) (o2 := 1) (s := s_y) (a := a_y) (n := n_y) (c := c_y) HJ.out (by have := HJs.out; omega))
      rw [hw2] at HJ
      clear hw2 hn9
      refine lateL 11 (by kernel_rfl) (by decide) rfl (fun K hK => ?_)
      go_simp
      try rw [hw]
      refine hK.out _ _ ?_
      clear hK K
      try simp only [Act.put, sX1, sX2, sX3]
      clear hw e0 e1 e2 e3
      refine doneL (by kernel_rfl) ?_ _
      clear hHeld
      refine joinQ_normal ⟨_, _, _, _, _, _, _, _, _, _, by first | rfl | (simp only [sX1, sX2, sX3]; rfl), Fh, Fo, HJ, hZ (by have := HJs.out; omega)⟩
     ·as_aux_lemma =>
      go_simp
      obtain ⟨w6, hw⟩ : ∃ w', w5.alloc (.cells #[.bool false, .slice none 0 0] 58) = w' := ⟨_, rfl⟩
      have hB : Below w5.heap.size w5 w6 := by rw [← hw]; exact (Below.refl _ _).alloc (Nat.le_refl _) _
      obtain ⟨b9, hb⟩ : ∃ b, w5.heap.size = b := ⟨_, rfl⟩
      have Fo' : Hid (Bx w6 b9 0) := hZ (by rw [← hw, ← hb]; exact Bx.new (wint_zero _))
      have hge_b9 : w5.heap.size ≤ b9 := by rw [← hb]; exact HBr.out.size
      replace HBr := hZ (HBr.out.trans (Only.of_below hB))
      replace Vx := hZ (Vx.out.blw hB)
      replace Vy := hZ (Vy.out.blw hB)
      replace HJ := hZ (HJ.out.trans (hB.mono HJ.out.size))
      clear hB
      have Fo := Fo'
      clear Fo'
      rw [hw]
      try rw [hb]
      clear hw hb
      refine hK.out _ _ HBr.out (fun hHeld => ?_)
      clear hK K
      try simp only [Act.put, sX1, sX2, sX3]
      refine stepL 8 (by kernel_rfl) rfl (fun K hK => ?_)
      go_simp
      obtain ⟨w7, hw⟩ : ∃ w', w6.alloc (.cells #[.bool false, .slice none 0 0] 58) = w' := ⟨_, rfl⟩
      have hB : Below w6.heap.size w6 w7 := by rw [← hw]; exact (Below.refl _ _).alloc (Nat.le_refl _) _
      obtain ⟨b8, hb⟩ : ∃ b, w6.heap.size = b := ⟨_, rfl⟩
      have Fh' : Hid (Bx w7 b8 0) := hZ (by rw [← hw, ← hb]; exact Bx.new (wint_zero _))
      have hge_b8 : w5.heap.size ≤ b8 := by rw [← hb]; exact HBr.out.size
      have hne_b9_b8 : b9 < b8 := by rw [← hb]; exact Fo.out.lt
      replace HBr := hZ (HBr.out.trans (Only.of_below hB))
      replace Vx := hZ (Vx.out.blw hB)
      replace Vy := hZ (Vy.out.blw hB)
      replace Fo := hZ (Fo.out.blw hB)
      replace HJ := hZ (HJ.out.trans (hB.mono HJ.out.size))
      clear hB
      have Fh := Fh'
      clear Fh'
      rw [hw]
      try rw [hb]
      clear hw hb
      refine hK.out _ _ HBr.out (fun hHeld => ?_)
      clear hK K
      try simp only [Act.put, sX1, sX2, sX3]
      obtain ⟨s_9, a_9, n_9, c_9, t_9, -⟩ := Fh.out
      have e0 := t_9.cell0
      have e1 := t_9.cell1
      have e2 := t_9.frozen 0
      have e3 := t_9.frozen 1
      clear t_9
      have hn9 : NoInt w7 (b8) := Fh.out.noInt
      obtain ⟨w8, hw⟩ : ∃ w', (w7.setCell ⟨b8, 0, none⟩ (.bool s_x)).setCell ⟨b8, 1, none⟩ (.slice a_x n_x c_x) = w' := ⟨_, rfl⟩
      have hw2 : st2 w7 (b8) (0) (1) s_x a_x n_x c_x = w8 := hw
      replace Fh := hZ (Bx.put Fh.out Vx.out)
      rw [hw2] at Fh
      replace Vx := hZ (Vx.out.offe hw2 hn9)
      replace Vy := hZ (Vy.out.offe hw2 hn9)
      replace Fo := hZ (Fo.out.offe hw2 hn9 (by omega))
      replace HJ := hZ (below_off (g := b8) (o1 := 0) (o2 := 1) (s := s_x) (a := a_x) (n := n_x) (c := c_x) HJ.out (by have := HJs.out; omega))
      rw [hw2] at HJ
      clear hw2 hn9
      replace HBr := hZ (HBr.out.off (g := b8) (o1 := 0) (o2 := 1) (s := s_x) (a := a_x) (n := n_x) (c := c_x) (show w5.heap.size ≤ b8 from hge_b8))
      rw [show st2 w7 (b8) 0 1 s_x a_x n_x c_x = w8 from hw] at HBr
      refine stepL 10 (by kernel_rfl) rfl (fun K hK => ?_)
      go_simp
      try rw [hw]
      refine hK.out _ _ HBr.out (fun hHeld => ?_)
      clear hK K
      try simp only [Act.put, sX1, sX2, sX3]
      clear hw e0 e1 e2 e3
      obtain ⟨s_9, a_9, n_9, c_9, t_9, -⟩ := Fo.out
      have e0 := t_9.cell0
      have e1 := t_9.cell1
      have e2 := t_9.frozen 0
      have e3 := t_9.frozen 1
      clear t_9
      have hn9 : NoInt w8 (b9) := Fo.out.noInt
      obtain ⟨w9, hw⟩ : ∃ w', (w8.setCell ⟨b9, 0, none⟩ (.bool s_y)).setCell ⟨b9, 1, none⟩ (.slice a_y n_y c_y) = w' := ⟨_, rfl⟩
      have hw2 : st2 w8 (b9) (0) (1) s_y a_y n_y c_y = w9 := hw
      replace Fo := hZ (Bx.put Fo.out Vy.out)
      rw [hw2] at Fo
      replace Vx := hZ (Vx.out.offe hw2 hn9)
      replace Vy := hZ (Vy.out.offe hw2 hn9)
      replace Fh := hZ (Fh.out.offe hw2 hn9 (by omega))
      replace HJ := hZ (below_off (g := b9) (o1 := 0) (o2 := 1) (s := s_y) (a := a_y) (n := n_y) (c := c_y) HJ.out (by have := HJs.out; omega))
      rw [hw2] at HJ
      clear hw2 hn9
      refine lateL 11 (by kernel_rfl) (by decide) rfl (fun K hK => ?_)
      go_simp
      try rw [hw]
      refine hK.out _ _ ?_
      clear hK K
      try simp only [Act.put, sX1, sX2, sX3]
      clear hw e0 e1 e2 e3
      refine doneL (by kernel_rfl) ?_ _
      clear hHeld
      refine joinQ_normal ⟨_, _, _, _, _, _, _, _, _, _, by first | rfl | (simp only [sX1, sX2, sX3]; rfl), Fh, Fo, HJ, hZ (by have := HJs.out; omega)⟩
    ·as_aux_lemma =>
     rintro a w5 ⟨v34, v35, v36, v37, v38, v39, v40, v41, b8, b9, rfl, Fh, Fo, HJ, Hxy⟩
     simp only [sX1, sX2, sX3]
     have hB := HJ.out
     clear HJ
     replace Ra := hZ (Ra.out.blw hB)
     replace Oa := hZ (Oa.out.blw hB)
     replace Fm := hZ (Fm.out.blw hB)
     replace Oq := hZ (Oq.out.blw hB)
     replace RX := hZ (RX.out.blw hB)
     replace Rr := hZ (Rr.out.blw hB)
     replace HO := hZ (HO.out.blw hB)
     clear hB
     have Hb8 : Hid (br < b8 ∧ br < b9 ∧ b8 ≠ b9) := hZ (by have := Hxy.out; omega)
     clear Hxy hlr
     obtain ⟨s_o, a_o, n_o, c_o, t_o, h_o⟩ := Fo.out
     have d0o := t_o.cell0
     have d1o := t_o.cell1
     have Vo := hZ h_o
     clear t_o h_o
     obtain ⟨s_h, a_h, n_h, c_h, t_h, h_h⟩ := Fh.out
     have d0h := t_h.cell0
     have d1h := t_h.cell1
     have Vh := hZ h_h
     clear t_h h_h
     go_wp2_with fail
     clear d0o d1o d0h d1h
     refine (div_b (w := w5) Vo.out Vh.out Sy.out Sx.out (by omega) (by omega) (by omega)).mono ?_
     rintro e w6 ⟨s_q, a_q, n_q, c_q, s_r, a_r, n_r, c_r, rfl, h_q, h_r, hB⟩
     have Vq := hZ h_q
     have Vr := hZ h_r
     replace Ra := hZ (Ra.out.blw hB)
     replace Oa := hZ (Oa.out.blw hB)
     replace Fm := hZ (Fm.out.blw hB)
     replace Oq := hZ (Oq.out.blw hB)
     replace RX := hZ (RX.out.blw hB)
     replace Rr := hZ (Rr.out.blw hB)
     replace Fh := hZ (Fh.out.blw hB)
     replace Fo := hZ (Fo.out.blw hB)
     replace Vo := hZ (Vo.out.blw hB)
     replace Vh := hZ (Vh.out.blw hB)
     replace HO := hZ (HO.out.blw hB)
     clear hB
     clear h_q h_r
     clear Vo Vh
     obtain ⟨qq, hqq⟩ : ∃ z, y / x = z := ⟨_, rfl⟩
     obtain ⟨rr, hrr⟩ : ∃ z, y % x = z := ⟨_, rfl⟩
     rw [hqq] at Vq
     rw [hrr] at Vr
     have Hqq := hZ hqq
     have Hrr := hZ hrr
     have Sq : Hid (Sz 4001 qq) := hZ (hqq ▸ Sy.out.div (by omega))
     have Sr : Hid (Sz 4000 rr) := hZ (hrr ▸ Sx.out.mod (by omega))
     have hdm : y = qq * x + rr := by have := Int.emod_add_mul_ediv y x; rw [hqq, hrr, Int.mul_comm] at this; omega
     clear hqq hrr
     have hl8 := Fh.out.lt
     have hl9 := Fo.out.lt
     obtain ⟨w7, hw⟩ : ∃ w', ((w6.alloc (.cells #[.bool s_q, .slice a_q n_q c_q] 58)).alloc (.cells #[.bool s_r, .slice a_r n_r c_r] 58)) = w' := ⟨_, rfl⟩
     have hB : Below w6.heap.size w6 w7 := by rw [← hw]; exact ((Below.refl _ _).alloc (Nat.le_refl _) _).alloc (by simp) _
     obtain ⟨b10, hb_b10⟩ : ∃ b, w6.heap.size = b := ⟨_, rfl⟩
     have h9 := Bx.blw (Bx.new (w := w6) Vq.out) ((Below.refl _ _).alloc (Nat.le_refl _) (.cells #[.bool s_r, .slice a_r n_r c_r] 58))
     rw [hw, hb_b10] at h9
     have Fq' := hZ h9
     have hge_b10 : w6.heap.size ≤ b10 := by omega
     clear h9
     obtain ⟨b11, hb_b11⟩ : ∃ b, w6.heap.size + 1 = b := ⟨_, rfl⟩
     have h9 := Bx.new (w := (w6.alloc (.cells #[.bool s_q, .slice a_q n_q c_q] 58))) (Vr.out.blw ((Below.refl _ _).alloc (Nat.le_refl _) _)); rw [World.size_alloc] at h9
     rw [hw, hb_b11] at h9
     have Fr' := hZ h9
     have hge_b11 : w6.heap.size ≤ b11 := by omega
     clear h9
     replace Ra := hZ (Ra.out.blw hB)
     replace Oa := hZ (Oa.out.blw hB)
     replace Fm := hZ (Fm.out.blw hB)
     replace Oq := hZ (Oq.out.blw hB)
     replace RX := hZ (RX.out.blw hB)
     replace Rr := hZ (Rr.out.blw hB)
     replace Fh := hZ (Fh.out.blw hB)
     replace Fo := hZ (Fo.out.blw hB)
     replace Vq := hZ (Vq.out.blw hB)
     replace Vr := hZ (Vr.out.blw hB)
     replace HO := hZ (HO.out.blw hB)
     have Fq := Fq'
     clear Fq'
     have Fr := Fr'
     clear Fr'
     clear hB
     have Hb10 : Hid (br < b10 ∧ br < b11 ∧ b10 < b11 ∧ b8 < b10 ∧ b9 < b10) := hZ (by have := Hb8.out; omega)
     clear hl8 hl9 hge_b10 hge_b11
     obtain rfl : b11 = b10 + 1 := by omega
     clear hb_b11
     obtain ⟨s_t, a_t, n_t, c_t, t_t, h_t⟩ := Fr.out
     have d0t := t_t.cell0
     have d1t := t_t.cell1
     have Vt := hZ h_t
     clear t_t h_t
     go_wp2_with fail
     clear hw hb_b10
     clear d0t d1t
     clear Vq Vr
     by_cases hr0 : rr = 0
     ·as_aux_lemma =>
      refine (sign_b (w := w7) Vt.out Sr.out (by omega)).mono ?_
      rintro e w8 ⟨he, hB⟩
      rw [show cmp3 rr 0 = 0 by rw [hr0]; exact cmp3_eq 0] at he
      subst he
      replace Ra := hZ (Ra.out.blw hB)
      replace Oa := hZ (Oa.out.blw hB)
      replace Fm := hZ (Fm.out.blw hB)
      replace Oq := hZ (Oq.out.blw hB)
      replace RX := hZ (RX.out.blw hB)
      replace Rr := hZ (Rr.out.blw hB)
      replace Fh := hZ (Fh.out.blw hB)
      replace Fo := hZ (Fo.out.blw hB)
      replace Fq := hZ (Fq.out.blw hB)
      replace Fr := hZ (Fr.out.blw hB)
      replace Vt := hZ (Vt.out.blw hB)
      replace HO := hZ (HO.out.blw hB)
      clear hB
      clear Vt
      go_wp2_with fail
      have HV : vec as1 j = qq * vec row j := by rw [vec_at Hja.out, vec_at Hjr.out, Hy.out, Hx.out]; omega
      have HVq := hZ HV
      clear HV
      have HD := hZ (DivTo.start (m := m) (q := qq) (j := j) (row := row) Hal.out HI.out.bda)
      go_loopw [14] (fun i wr => ∃ (k : Nat) (as2 : List Int), j + 1 ≤ k ∧ k ≤ n ∧ i = .int .i64 k ∧ Hid (DivTo m qq n j k row as1 as2) ∧ Hid (WRow wr ga as2) ∧ Hid (One wr ba 55 (.slice (some ⟨ga, 0, none⟩) n c2)) ∧ Hid (Bx wr bm m) ∧ Hid (RwX wr R l n sq1 j) ∧ Hid (WRow wr g row) ∧ Hid (One wr br 55 (.slice (some ⟨g, 0, none⟩) n c1)) ∧ Hid (Bx wr b10 qq) ∧ Hid (Only (InsS ga l) w0 wr)) (fun i _ => n - (intOf i).toNat)
      case atStart => exact ⟨j + 1, as1, by omega, by omega, by go_num, HD, Ra, Oa, Fm, RX, Rr, Oq, Fq, HO⟩
      case round =>
       clear HD Ra Oa Fm RX Rr Oq Fq Fr Fh Fo HO
       obtain ⟨k, as2, hjk, hk, rfl, HD, Ra, Oa, Fm, RX, Rr, Oq, Fq, HO⟩ := hrel
       obtain ⟨w8, rfl⟩ : ∃ w' : World, w' = wr := ⟨_, rfl⟩
       by_cases hkl : k < n
       ·as_aux_lemma =>
        have j1 : (0 : Int) ≤ (k : Int) := by omega
        have j2 : (k : Int) < (n : Int) := by omega
        have Hkr : Hid (k < row.length) := hZ (by have := Hrl.out; omega)
        have Hka : Hid (k < as2.length) := hZ (by rw [HD.out.len]; exact hkl)
        have dor := Oq.out.cell
        obtain ⟨s_u, a_u, n_u, c_u, d0u, d1u, h_u⟩ := Rr.out.get k Hkr.out
        obtain ⟨uz, huz⟩ : ∃ z, row[k]'Hkr.out = z := ⟨_, rfl⟩
        rw [huz] at h_u
        have Vu := hZ h_u
        have Huz := hZ huz
        clear h_u huz
        have Su : Hid (Sz 4000 uz) := hZ (sz_bd Sm.out (Huz.out ▸ HBr1.out _ (List.getElem_mem _)))
        go_wp2_with fail
        clear dor d0u d1u
        by_cases hu0 : uz = 0
        ·as_aux_lemma =>
         refine (sign_b (w := w8) Vu.out Su.out (by omega)).mono ?_
         rintro e w9 ⟨he, hB⟩
         rw [show cmp3 uz 0 = 0 by rw [hu0]; exact cmp3_eq 0] at he
         subst he
         replace Ra := hZ (Ra.out.blw hB)
         replace Oa := hZ (Oa.out.blw hB)
         replace Fm := hZ (Fm.out.blw hB)
         replace RX := hZ (RX.out.blw hB)
         replace Rr := hZ (Rr.out.blw hB)
         replace Oq := hZ (Oq.out.blw hB)
         replace Fq := hZ (Fq.out.blw hB)
         replace Vu := hZ (Vu.out.blw hB)
         replace HO := hZ (HO.out.blw hB)
         clear hB
         go_wp2_with fail
         go_roundw
         case rel => exact ⟨k + 1, as2, by omega, by omega, by go_num, hZ (HD.out.skip (by rw [vec_at Hkr.out, Huz.out]; exact hu0)), Ra, Oa, Fm, RX, Rr, Oq, Fq, HO⟩
         case measure => simp [intOf]; omega
        ·as_aux_lemma =>
         refine (sign_b (w := w8) Vu.out Su.out (by omega)).mono ?_
         rintro e w9 ⟨he, hB⟩
         obtain ⟨sgu, hs9, q0u, q1u⟩ := cmp3_nz (x := uz) hu0
         rw [hs9] at he
         subst he
         clear hs9
         replace Ra := hZ (Ra.out.blw hB)
         replace Oa := hZ (Oa.out.blw hB)
         replace Fm := hZ (Fm.out.blw hB)
         replace RX := hZ (RX.out.blw hB)
         replace Rr := hZ (Rr.out.blw hB)
         replace Oq := hZ (Oq.out.blw hB)
         replace Fq := hZ (Fq.out.blw hB)
         replace Vu := hZ (Vu.out.blw hB)
         replace HO := hZ (HO.out.blw hB)
         clear hB
         go_wp2_with fail
         clear Vu
         clear q0u q1u
         obtain ⟨w10, hwd⟩ : ∃ w', w9.drew = w' := ⟨_, rfl⟩
         have hB : Below w9.heap.size w9 w10 := by rw [← hwd]; exact (Below.refl _ _).drew
         replace Ra := hZ (Ra.out.blw hB)
         replace Oa := hZ (Oa.out.blw hB)
         replace Fm := hZ (Fm.out.blw hB)
         replace RX := hZ (RX.out.blw hB)
         replace Rr := hZ (Rr.out.blw hB)
         replace Oq := hZ (Oq.out.blw hB)
         replace Fq := hZ (Fq.out.blw hB)
         replace HO := hZ (HO.out.blw hB)
         clear hB
         have HBr : Hid (Only (fun b => False) w10 w10) := hZ (Only.refl _ _)
         refine startL [16] (fun w' => Only (fun b => False) w10 w') (by kernel_rfl) (by rw [hwd]; exact Only.refl _ _) (fun hHeld => ?_)
         rw [hwd] at hHeld ⊢
         clear hwd
         have dor := Oq.out.cell
         have doa := Oa.out.cell
         obtain ⟨s_q, a_q, n_q, c_q, t_q, h_q⟩ := Fq.out
         have d0q := t_q.cell0
         have d1q := t_q.cell1
         have Vq := hZ h_q
         clear t_q h_q
         obtain ⟨s_m, a_m, n_m, c_m, t_m, h_m⟩ := Fm.out
         have d0m := t_m.cell0
         have d1m := t_m.cell1
         have Vm := hZ h_m
         clear t_m h_m
         obtain ⟨s_u, a_u, n_u, c_u, d0u, d1u, h_u⟩ := Rr.out.get k Hkr.out
         rw [Huz.out] at h_u
         have Vu := hZ h_u
         clear h_u
         obtain ⟨s_p, a_p, n_p, c_p, d0p, d1p, h_p⟩ := Ra.out.get k Hka.out
         obtain ⟨pz, hpz⟩ : ∃ z, as2[k]'Hka.out = z := ⟨_, rfl⟩
         rw [hpz] at h_p
         have Vp := hZ h_p
         have Hpz := hZ hpz
         clear h_p hpz
         have Sp : Hid (Sz 4000 pz) := hZ (sz_bd Sm.out (Hpz.out ▸ HD.out.bd _ (List.getElem_mem _)))
         refine takeL 0 67 (v := ?_) rfl rfl (by kernel_rfl) (by kernel_rfl) (by kernel_rfl) (by kernel_rfl) (by kernel_rfl) (fun _ _ _ h => h) (by rfl) ?_ (by assumption) ?_
         rotate_left
         ·(intro w hSw; have x0 := (hSw.cell (p := ⟨ba, 0, none⟩) (fun h => h) Oa.out.lt).trans doa; go_simp; first | done | with_reducible rfl)
         simp only [sX1, sX2, sX3]
         refine pureL 1 68 (v := ?_) rfl rfl (by kernel_rfl) (by kernel_rfl) (by kernel_rfl) (fun _ _ _ h => h) (by rfl) ?_ ?_
         rotate_left
         ·(intro w; go_simp; first | done | with_reducible rfl)
         simp only [sX1, sX2, sX3]
         refine takeL 2 69 (v := ?_) rfl rfl (by kernel_rfl) (by kernel_rfl) (by kernel_rfl) (by kernel_rfl) (by kernel_rfl) (fun _ _ _ h => h) (by rfl) ?_ (by assumption) ?_
         rotate_left
         ·(intro w hSw; have x0 := (hSw.cell (p := ⟨ba, 0, none⟩) (fun h => h) Oa.out.lt).trans doa; go_simp; first | done | with_reducible rfl)
         simp only [sX1, sX2, sX3]
         refine pureL 3 70 (v := ?_) rfl rfl (by kernel_rfl) (by kernel_rfl) (by kernel_rfl) (fun _ _ _ h => h) (by rfl) ?_ ?_
         rotate_left
         ·(intro w; go_simp; first | done | with_reducible rfl)
         simp only [sX1, sX2, sX3]
         refine pureL 4 71 (v := ?_) rfl rfl (by kernel_rfl) (by kernel_rfl) (by kernel_rfl) (fun _ _ _ h => h) (by rfl) ?_ ?_
         rotate_left
         ·(intro w; go_simp; first | done | with_reducible rfl)
         simp only [sX1, sX2, sX3]
         refine takeL 5 72 (v := ?_) rfl rfl (by kernel_rfl) (by kernel_rfl) (by kernel_rfl) (by kernel_rfl) (by kernel_rfl) (fun _ _ _ h => h) (by rfl) ?_ (by assumption) ?_
         rotate_left
         ·(intro w hSw; have x0 := (hSw.cell (p := ⟨ga, k * 2, none⟩) (fun h => h) Ra.out.lt).trans d0p; have x1 := (hSw.cell (p := ⟨ga, k * 2 + 1, none⟩) (fun h => h) Ra.out.lt).trans d1p; go_simp; first | done | with_reducible rfl)
         simp only [sX1, sX2, sX3]
         refine takeL 6 73 (v := ?_) rfl rfl (by kernel_rfl) (by kernel_rfl) (by kernel_rfl) (by kernel_rfl) (by kernel_rfl) (fun _ _ _ h => h) (by rfl) ?_ (by assumption) ?_
         rotate_left
         ·(intro w hSw; have x0 := (hSw.cell (p := ⟨b10, 0, none⟩) (fun h => h) Fq.out.lt).trans d0q; have x1 := (hSw.cell (p := ⟨b10, 1, none⟩) (fun h => h) Fq.out.lt).trans d1q; go_simp; first | done | with_reducible rfl)
         simp only [sX1, sX2, sX3]
         refine takeL 7 74 (v := ?_) rfl rfl (by kernel_rfl) (by kernel_rfl) (by kernel_rfl) (by kernel_rfl) (by kernel_rfl) (fun _ _ _ h => h) (by rfl) ?_ (by assumption) ?_
         rotate_left
         ·(intro w hSw; have x0 := (hSw.cell (p := ⟨br, 0, none⟩) (fun h => h) Oq.out.lt).trans dor; go_simp; first | done | with_reducible rfl)
         simp only [sX1, sX2, sX3]
         refine pureL 8 75 (v := ?_) rfl rfl (by kernel_rfl) (by kernel_rfl) (by kernel_rfl) (fun _ _ _ h => h) (by rfl) ?_ ?_
         rotate_left
         ·(intro w; go_simp; first | done | with_reducible rfl)
         simp only [sX1, sX2, sX3]
         refine pureL 9 76 (v := ?_) rfl rfl (by kernel_rfl) (by kernel_rfl) (by kernel_rfl) (fun _ _ _ h => h) (by rfl) ?_ ?_
         rotate_left
         ·(intro w; go_simp; first | done | with_reducible rfl)
         simp only [sX1, sX2, sX3]
         refine takeL 10 77 (v := ?_) rfl rfl (by kernel_rfl) (by kernel_rfl) (by kernel_rfl) (by kernel_rfl) (by kernel_rfl) (fun _ _ _ h => h) (by rfl) ?_ (by assumption) ?_
         rotate_left
         ·(intro w hSw; have x0 := (hSw.cell (p := ⟨g, k * 2, none⟩) (fun h => h) Rr.out.lt).trans d0u; have x1 := (hSw.cell (p := ⟨g, k * 2 + 1, none⟩) (fun h => h) Rr.out.lt).trans d1u; go_simp; first | done | with_reducible rfl)
         simp only [sX1, sX2, sX3]
         refine takeL 13 80 (v := ?_) rfl rfl (by kernel_rfl) (by kernel_rfl) (by kernel_rfl) (by kernel_rfl) (by kernel_rfl) (fun _ _ _ h => h) (by rfl) ?_ (by assumption) ?_
         rotate_left
         ·(intro w hSw; have x0 := (hSw.cell (p := ⟨bm, 0, none⟩) (fun h => h) Fm.out.lt).trans d0m; have x1 := (hSw.cell (p := ⟨bm, 1, none⟩) (fun h => h) Fm.out.lt).trans d1m; go_simp; first | done | with_reducible rfl)
         simp only [sX1, sX2, sX3]
         clear d0q d1q d0m d1m d0u d1u d0p d1p
         clear dor doa
         refine stepL 11 (by kernel_rfl) rfl (fun K hK => ?_)
         go_simp
         refine (times_b (w := w10) Vq.out Vu.out Sq.out Su.out (by omega)).mono ?_
         rintro e w11 ⟨s_s, a_s, n_s, c_s, rfl, h_s, hB⟩
         have Vs := hZ h_s
         replace HBr := hZ (HBr.out.trans (Only.of_below hB))
         replace Ra := hZ (Ra.out.blw hB)
         replace Oa := hZ (Oa.out.blw hB)
         replace Fm := hZ (Fm.out.blw hB)
         replace RX := hZ (RX.out.blw hB)
         replace Rr := hZ (Rr.out.blw hB)
         replace Oq := hZ (Oq.out.blw hB)
         replace Fq := hZ (Fq.out.blw hB)
         replace Vq := hZ (Vq.out.blw hB)
         replace Vm := hZ (Vm.out.blw hB)
         replace Vu := hZ (Vu.out.blw hB)
         replace Vp := hZ (Vp.out.blw hB)
         replace HO := hZ (HO.out.blw hB)
         clear hB
         clear h_s
         refine hK.out _ _ HBr.out (fun hHeld => ?_)
         clear hK K
         try simp only [Act.put, sX1, sX2, sX3]
         refine stepL 12 (by kernel_rfl) rfl (fun K hK => ?_)
         go_simp
         refine (minus_b (w := w11) (k := 8001) Vp.out Vs.out (Sp.out.mono (by omega)) (Sq.out.mul Su.out) (by omega)).mono ?_
         rintro e w12 ⟨s_v, a_v, n_v, c_v, rfl, h_v, hB⟩
         have Vv := hZ h_v
         replace HBr := hZ (HBr.out.trans (Only.of_below hB))
         replace Ra := hZ (Ra.out.blw hB)
         replace Oa := hZ (Oa.out.blw hB)
         replace Fm := hZ (Fm.out.blw hB)
         replace RX := hZ (RX.out.blw hB)
         replace Rr := hZ (Rr.out.blw hB)
         replace Oq := hZ (Oq.out.blw hB)
         replace Fq := hZ (Fq.out.blw hB)
         replace Vq := hZ (Vq.out.blw hB)
         replace Vm := hZ (Vm.out.blw hB)
         replace Vu := hZ (Vu.out.blw hB)
         replace Vp := hZ (Vp.out.blw hB)
         replace Vs := hZ (Vs.out.blw hB)
         replace HO := hZ (HO.out.blw hB)
         clear hB
         clear h_v
         refine hK.out _ _ HBr.out (fun hHeld => ?_)
         clear hK K
         try simp only [Act.put, sX1, sX2, sX3]
         refine stepL 14 (by kernel_rfl) rfl (fun K hK => ?_)
         go_simp
         refine (modulo_b (w := w12) (k := 8002) (l := 4000) Vv.out Vm.out ((Sp.out.mono (by omega)).sub (Sq.out.mul Su.out)) Sm.out (by omega) (by omega) (by omega)).mono ?_
         rintro e w13 ⟨s_z, a_z, n_z, c_z, rfl, h_z, hB⟩
         have Vz := hZ h_z
         replace HBr := hZ (HBr.out.trans (Only.of_below hB))
         replace Ra := hZ (Ra.out.blw hB)
         replace Oa := hZ (Oa.out.blw hB)
         replace Fm := hZ (Fm.out.blw hB)
         replace RX := hZ (RX.out.blw hB)
         replace Rr := hZ (Rr.out.blw hB)
         replace Oq := hZ (Oq.out.blw hB)
         replace Fq := hZ (Fq.out.blw hB)
         replace Vq := hZ (Vq.out.blw hB)
         replace Vm := hZ (Vm.out.blw hB)
         replace Vu := hZ (Vu.out.blw hB)
         replace Vp := hZ (Vp.out.blw hB)
         replace Vs := hZ (Vs.out.blw hB)
         replace Vv := hZ (Vv.out.blw hB)
         replace HO := hZ (HO.out.blw hB)
         clear hB
         clear h_z
         refine hK.out _ _ HBr.out (fun hHeld => ?_)
         clear hK K
         try simp only [Act.put, sX1, sX2, sX3]
         refine pureL 15 82 (v := ?_) rfl rfl (by kernel_rfl) (by kernel_rfl) (by kernel_rfl) (fun _ _ _ h => h) (by rfl) ?_ ?_
         rotate_left
         ·(intro w; go_simp; first | done | with_reducible rfl)
         simp only [sX1, sX2, sX3]
         obtain ⟨s_9, a_9, n_9, c_9, e0, e1, -⟩ := Ra.out.get (k) Hka.out
         have e2 := Ra.out.frozen (k * 2)
         have e3 := Ra.out.frozen (k * 2 + 1)
         have hn9 : NoInt w13 (ga) := Ra.out.noInt
         obtain ⟨w14, hw⟩ : ∃ w', (w13.setCell ⟨ga, k * 2, none⟩ (.bool s_z)).setCell ⟨ga, k * 2 + 1, none⟩ (.slice a_z n_z c_z) = w' := ⟨_, rfl⟩
         have hw2 : st2 w13 (ga) (k * 2) (k * 2 + 1) s_z a_z n_z c_z = w14 := hw
         replace Ra := hZ (WRow.put' Ra.out (k) Hka.out Vz.out)
         rw [hw2] at Ra
         replace Oa := hZ (Oa.out.offe hw2 (by have := HWg.out; have := HW.out; have := Hba.out; have := Hbm.out; have := Hbr.out; have := Hb8.out; have := Hb10.out; omega))
         replace Fm := hZ (Fm.out.offe hw2 hn9 (by have := HWg.out; have := HW.out; have := Hba.out; have := Hbm.out; have := Hbr.out; have := Hb8.out; have := Hb10.out; omega))
         replace RX := hZ (RwX.off (g := ga) (o1 := k * 2) (o2 := k * 2 + 1) (s := s_z) (a := a_z) (n' := n_z) (c := c_z) RX.out hn9 ⟨Ne.symm Hne.out.1, fun i hi _ => Hne.out.2 i hi⟩)
         rw [hw2] at RX
         replace Rr := hZ (Rr.out.offe hw2 hn9 (by have := HWg.out; have := HW.out; have := Hba.out; have := Hbm.out; have := Hbr.out; have := Hb8.out; have := Hb10.out; omega))
         replace Oq := hZ (Oq.out.offe hw2 (by have := HWg.out; have := HW.out; have := Hba.out; have := Hbm.out; have := Hbr.out; have := Hb8.out; have := Hb10.out; omega))
         replace Fq := hZ (Fq.out.offe hw2 hn9 (by have := HWg.out; have := HW.out; have := Hba.out; have := Hbm.out; have := Hbr.out; have := Hb8.out; have := Hb10.out; omega))
         replace Vq := hZ (Vq.out.offe hw2 hn9)
         replace Vm := hZ (Vm.out.offe hw2 hn9)
         replace Vu := hZ (Vu.out.offe hw2 hn9)
         replace Vp := hZ (Vp.out.offe hw2 hn9)
         replace Vs := hZ (Vs.out.offe hw2 hn9)
         replace Vv := hZ (Vv.out.offe hw2 hn9)
         replace Vz := hZ (Vz.out.offe hw2 hn9)
         replace HO := hZ (HO.out.offe hw2 (Or.inl (Or.inl rfl)))
         clear hw2 hn9
         refine lateL 16 (by kernel_rfl) (by decide) rfl (fun K hK => ?_)
         go_simp
         try rw [hw]
         refine hK.out _ _ ?_
         clear hK K
         try simp only [Act.put, sX1, sX2, sX3]
         clear hw e0 e1 e2 e3
         refine doneL (by kernel_rfl) ?_ _
         clear hHeld
         go_wp2_with fail
         go_roundw
         case rel => exact ⟨k + 1, as2.set k ((pz - qq * uz) % m), by omega, by omega, by go_num, hZ (HD.out.step hm0 hjk hkl (by rw [vec_at Hka.out, vec_at Hkr.out, Hpz.out, Huz.out])), Ra, Oa, Fm, RX, Rr, Oq, Fq, HO⟩
         case measure => simp [intOf]; omega
       ·as_aux_lemma =>
        obtain rfl : k = n := by omega
        have dor := Oq.out.cell
        have doa := Oa.out.cell
        have Hja2 : Hid (j < as2.length) := hZ (by rw [HD.out.len]; exact hlt)
        obtain ⟨s_9, a_9, n_9, c_9, e0, e1, -⟩ := Ra.out.get (j) Hja2.out
        have e2 := Ra.out.frozen (j * 2)
        have e3 := Ra.out.frozen (j * 2 + 1)
        have hn9 : NoInt w8 (ga) := Ra.out.noInt
        obtain ⟨w9, hw⟩ : ∃ w', (w8.setCell ⟨ga, j * 2, none⟩ (.bool false)).setCell ⟨ga, j * 2 + 1, none⟩ (.slice none 0 0) = w' := ⟨_, rfl⟩
        have hw2 : st2 w8 (ga) (j * 2) (j * 2 + 1) false none 0 0 = w9 := hw
        replace Ra := hZ (WRow.put' Ra.out (j) Hja2.out (wint_zero _))
        rw [hw2] at Ra
        replace Oa := hZ (Oa.out.offe hw2 (by have := HWg.out; have := HW.out; have := Hba.out; have := Hbm.out; have := Hbr.out; have := Hb8.out; have := Hb10.out; omega))
        replace Fm := hZ (Fm.out.offe hw2 hn9 (by have := HWg.out; have := HW.out; have := Hba.out; have := Hbm.out; have := Hbr.out; have := Hb8.out; have := Hb10.out; omega))
        replace RX := hZ (RwX.off (g := ga) (o1 := j * 2) (o2 := j * 2 + 1) (s := false) (a := none) (n' := 0) (c := 0) RX.out hn9 ⟨Ne.symm Hne.out.1, fun i hi _ => Hne.out.2 i hi⟩)
        rw [hw2] at RX
        replace Rr := hZ (Rr.out.offe hw2 hn9 (by have := HWg.out; have := HW.out; have := Hba.out; have := Hbm.out; have := Hbr.out; have := Hb8.out; have := Hb10.out; omega))
        replace Oq := hZ (Oq.out.offe hw2 (by have := HWg.out; have := HW.out; have := Hba.out; have := Hbm.out; have := Hbr.out; have := Hb8.out; have := Hb10.out; omega))
        replace Fq := hZ (Fq.out.offe hw2 hn9 (by have := HWg.out; have := HW.out; have := Hba.out; have := Hbm.out; have := Hbr.out; have := Hb8.out; have := Hb10.out; omega))
        replace HO := hZ (HO.out.offe hw2 (Or.inl (Or.inl rfl)))
        clear hw2 hn9
        go_wp2_with fail
        clear hw e0 e1 e2 e3
        obtain ⟨k1, k2, k3, k4⟩ := HD.out.ins HR0.out HP.out (fun k hk => HI.out.low k hk) Hrl.out Hal.out hlt HVq.out
        go_roundw
        case rel => exact ⟨j + 1, sq1.set j row, as2.set j 0, by omega, by go_num, hZ (HI.out.step hjs (by rw [HRow.out]; exact k1) HBr1.out k2 k3 k4), hZ (RX.out.close hjl (by rw [HG.out]; exact Rr.out) Hrl.out), Ra, Oa, Fm, HO⟩
        case measure => simp [intOf]; omega
     ·as_aux_lemma =>
      refine (sign_b (w := w7) Vt.out Sr.out (by omega)).mono ?_
      rintro e w8 ⟨he, hB⟩
      obtain ⟨sgt, hs9, q0t, q1t⟩ := cmp3_nz (x := rr) hr0
      rw [hs9] at he
      subst he
      clear hs9
      replace Ra := hZ (Ra.out.blw hB)
      replace Oa := hZ (Oa.out.blw hB)
      replace Fm := hZ (Fm.out.blw hB)
      replace Oq := hZ (Oq.out.blw hB)
      replace RX := hZ (RX.out.blw hB)
      replace Rr := hZ (Rr.out.blw hB)
      replace Fh := hZ (Fh.out.blw hB)
      replace Fo := hZ (Fo.out.blw hB)
      replace Fq := hZ (Fq.out.blw hB)
      replace Fr := hZ (Fr.out.blw hB)
      replace Vt := hZ (Vt.out.blw hB)
      replace HO := hZ (HO.out.blw hB)
      clear hB
      clear Vt
      obtain ⟨s_h, a_h, n_h, c_h, t_h, h_h⟩ := Fh.out
      have d0h := t_h.cell0
      have d1h := t_h.cell1
      have Vh := hZ h_h
      clear t_h h_h
      obtain ⟨s_o, a_o, n_o, c_o, t_o, h_o⟩ := Fo.out
      have d0o := t_o.cell0
      have d1o := t_o.cell1
      have Vo := hZ h_o
      clear t_o h_o
      go_wp2_with fail
      clear d0h d1h d0o d1o
      clear q0t q1t
      refine (bezout_any _ _ x y w8 Vh.out Vo.out hx0 hyp (Sx.out.mono (by omega)) (Sy.out.mono (by omega))).mono ?_
      rintro e w9 ⟨dv, u, v, vg, vu, vv, rfl, h_g, h_u, h_v, hbz, hB⟩
      obtain ⟨s_g, a_g, n_g, c_g, rfl⟩ := h_g.form4
      obtain ⟨s_u, a_u, n_u, c_u, rfl⟩ := h_u.form4
      obtain ⟨s_v, a_v, n_v, c_v, rfl⟩ := h_v.form4
      have Vg := hZ h_g
      have Vu := hZ h_u
      have Vv := hZ h_v
      have HBZ := hZ hbz
      clear Vh Vo
      replace Ra := hZ (Ra.out.blw hB)
      replace Oa := hZ (Oa.out.blw hB)
      replace Fm := hZ (Fm.out.blw hB)
      replace Oq := hZ (Oq.out.blw hB)
      replace RX := hZ (RX.out.blw hB)
      replace Rr := hZ (Rr.out.blw hB)
      replace Fh := hZ (Fh.out.blw hB)
      replace Fo := hZ (Fo.out.blw hB)
      replace Fq := hZ (Fq.out.blw hB)
      replace Fr := hZ (Fr.out.blw hB)
      replace HO := hZ (HO.out.blw hB)
      clear hB
      clear h_g h_u h_v hbz
      have Hdv : Hid (0 < dv ∧ dv ≤ x ∧ dv ≤ y) := hZ ⟨HBZ.out.g0, Int.le_of_dvd hx0 HBZ.out.gx, Int.le_of_dvd hyp HBZ.out.gy⟩
      have Sg : Hid (Sz 4000 dv) := hZ (Sx.out.of_le (by have := Hdv.out; omega))
      have Su : Hid (Sz 4100 u) := hZ ((Sy.out.of_le HBZ.out.ub).mono (by omega))
      have Sv : Hid (Sz 4100 v) := hZ ((Sz.of_le (Sx.out.add (Sz.one (by omega))) (by have := HBZ.out.vb; omega)).mono (by omega))
      have hdv0 : dv ≠ 0 := by have := Hdv.out; omega
      have hl11 := Fr.out.lt
      obtain ⟨w10, hw⟩ : ∃ w', (((w9.alloc (.cells #[.bool s_g, .slice a_g n_g c_g] 58)).alloc (.cells #[.bool s_u, .slice a_u n_u c_u] 58)).alloc (.cells #[.bool s_v, .slice a_v n_v c_v] 58)) = w' := ⟨_, rfl⟩
      have hB : Below w9.heap.size w9 w10 := by rw [← hw]; exact (((Below.refl _ _).alloc (Nat.le_refl _) _).alloc (by simp) _).alloc (by simp; omega) _
      obtain ⟨b15, hb_b15⟩ : ∃ b, w9.heap.size = b := ⟨_, rfl⟩
      have h9 := Bx.blw (Bx.blw (Bx.new (w := w9) Vg.out) ((Below.refl _ _).alloc (Nat.le_refl _) (.cells #[.bool s_u, .slice a_u n_u c_u] 58))) ((Below.refl _ _).alloc (Nat.le_refl _) (.cells #[.bool s_v, .slice a_v n_v c_v] 58))
      rw [hw, hb_b15] at h9
      have Fg' := hZ h9
      have hge_b15 : w9.heap.size ≤ b15 := by omega
      clear h9
      obtain ⟨b16, hb_b16⟩ : ∃ b, w9.heap.size + 1 = b := ⟨_, rfl⟩
      have h9 := Bx.blw (Bx.new (w := (w9.alloc (.cells #[.bool s_g, .slice a_g n_g c_g] 58))) (Vu.out.blw ((Below.refl _ _).alloc (Nat.le_refl _) _))) ((Below.refl _ _).alloc (Nat.le_refl _) (.cells #[.bool s_v, .slice a_v n_v c_v] 58)); rw [World.size_alloc] at h9
      rw [hw, hb_b16] at h9
      have Fu' := hZ h9
      have hge_b16 : w9.heap.size ≤ b16 := by omega
      clear h9
      obtain ⟨b17, hb_b17⟩ : ∃ b, w9.heap.size + 2 = b := ⟨_, rfl⟩
      have h9 := Bx.new (w := ((w9.alloc (.cells #[.bool s_g, .slice a_g n_g c_g] 58)).alloc (.cells #[.bool s_u, .slice a_u n_u c_u] 58))) (Vv.out.blw (((Below.refl _ _).alloc (Nat.le_refl _) _).alloc (by simp) _)); rw [World.size_alloc, World.size_alloc] at h9
      rw [hw, hb_b17] at h9
      have Fv' := hZ h9
      have hge_b17 : w9.heap.size ≤ b17 := by omega
      clear h9
      replace Ra := hZ (Ra.out.blw hB)
      replace Oa := hZ (Oa.out.blw hB)
      replace Fm := hZ (Fm.out.blw hB)
      replace Oq := hZ (Oq.out.blw hB)
      replace RX := hZ (RX.out.blw hB)
      replace Rr := hZ (Rr.out.blw hB)
      replace Fh := hZ (Fh.out.blw hB)
      replace Fo := hZ (Fo.out.blw hB)
      replace Fq := hZ (Fq.out.blw hB)
      replace Fr := hZ (Fr.out.blw hB)
      replace Vg := hZ (Vg.out.blw hB)
      replace Vu := hZ (Vu.out.blw hB)
      replace Vv := hZ (Vv.out.blw hB)
      replace HO := hZ (HO.out.blw hB)
      have Fg := Fg'
      clear Fg'
      have Fu := Fu'
      clear Fu'
      have Fv := Fv'
      clear Fv'
      clear hB
      have Hb15 : Hid (br < b15 ∧ b10 + 1 < b15 ∧ b15 < b16 ∧ br < b16) := hZ (by have := Hb10.out; omega)
      clear hl11 hge_b15 hge_b16 hge_b17
      obtain rfl : b17 = b16 + 1 := by omega
      clear hb_b17
      go_wp2_with fail
      try rw [show b15 + 1 = b16 by omega]
      clear hw hb_b15 hb_b16
      clear Vg Vu Vv Fq Fr
      have hl17 := Fv.out.lt
      refine wp_join (fun t ds a w' => ∃ v94 v95 v96 v97 v98 v99 v100 b18 b19, a = ⟨(((((((((t).setIfInBounds 18 (.pointer (some ⟨b18, 0, none⟩))).setIfInBounds 19 (.pointer (some ⟨b19, 0, none⟩))).setIfInBounds 94 v94).setIfInBounds 95 v95).setIfInBounds 96 v96).setIfInBounds 97 v97).setIfInBounds 98 v98).setIfInBounds 99 v99).setIfInBounds 100 v100, ds⟩ ∧ Hid (Bx w' b18 (-(y / dv))) ∧ Hid (Bx w' b19 (x / dv)) ∧ Hid (Below w10.heap.size w10 w') ∧ Hid (b18 ≠ b19 ∧ w10.heap.size ≤ b18 ∧ w10.heap.size ≤ b19)) ?_ ?_
      ·as_aux_lemma =>
       have HJ := hZ (Below.refl w10.heap.size w10)
       obtain ⟨w11, hwd⟩ : ∃ w', w10.drew = w' := ⟨_, rfl⟩
       have hB : Below w10.heap.size w10 w11 := by rw [← hwd]; exact (Below.refl _ _).drew
       replace Fh := hZ (Fh.out.blw hB)
       replace Fo := hZ (Fo.out.blw hB)
       replace Fg := hZ (Fg.out.blw hB)
       replace HJ := hZ (HJ.out.trans (hB.mono HJ.out.size))
       clear hB
       have HBr : Hid (Only (fun b => w11.heap.size ≤ b) w11 w11) := hZ (Only.refl _ _)
       refine startL [10] (fun w' => Only (fun b => w11.heap.size ≤ b) w11 w') (by kernel_rfl) (by rw [hwd]; exact Only.refl _ _) (fun hHeld => ?_)
       rw [hwd] at hHeld ⊢
       clear hwd
       obtain ⟨s_o, a_o, n_o, c_o, t_o, h_o⟩ := Fo.out
       have d0o := t_o.cell0
       have d1o := t_o.cell1
       have Vo := hZ h_o
       clear t_o h_o
       obtain ⟨s_h, a_h, n_h, c_h, t_h, h_h⟩ := Fh.out
       have d0h := t_h.cell0
       have d1h := t_h.cell1
       have Vh := hZ h_h
       clear t_h h_h
       obtain ⟨s_g, a_g, n_g, c_g, t_g, h_g⟩ := Fg.out
       have d0g := t_g.cell0
       have d1g := t_g.cell1
       have Vg := hZ h_g
       clear t_g h_g
       refine takeL 0 94 (v := ?_) rfl rfl (by kernel_rfl) (by kernel_rfl) (by kernel_rfl) (by kernel_rfl) (by kernel_rfl) (fun _ _ _ h => h) (by rfl) ?_ (by assumption) ?_
       rotate_left
       ·(intro w hSw; have x0 := (hSw.cell (p := ⟨b9, 0, none⟩) (Nat.not_le_of_lt Fo.out.lt) Fo.out.lt).trans d0o; have x1 := (hSw.cell (p := ⟨b9, 1, none⟩) (Nat.not_le_of_lt Fo.out.lt) Fo.out.lt).trans d1o; go_simp; first | done | with_reducible rfl)
       simp only [sX1, sX2, sX3]
       refine takeL 1 95 (v := ?_) rfl rfl (by kernel_rfl) (by kernel_rfl) (by kernel_rfl) (by kernel_rfl) (by kernel_rfl) (fun _ _ _ h => h) (by rfl) ?_ (by assumption) ?_
       rotate_left
       ·(intro w hSw; have x0 := (hSw.cell (p := ⟨b15, 0, none⟩) (Nat.not_le_of_lt Fg.out.lt) Fg.out.lt).trans d0g; have x1 := (hSw.cell (p := ⟨b15, 1, none⟩) (Nat.not_le_of_lt Fg.out.lt) Fg.out.lt).trans d1g; go_simp; first | done | with_reducible rfl)
       simp only [sX1, sX2, sX3]
       refine takeL 4 98 (v := ?_) rfl rfl (by kernel_rfl) (by kernel_rfl) (by kernel_rfl) (by kernel_rfl) (by kernel_rfl) (fun _ _ _ h => h) (by rfl) ?_ (by assumption) ?_
       rotate_left
       ·(intro w hSw; have x0 := (hSw.cell (p := ⟨b8, 0, none⟩) (Nat.not_le_of_lt Fh.out.lt) Fh.out.lt).trans d0h; have x1 := (hSw.cell (p := ⟨b8, 1, none⟩) (Nat.not_le_of_lt Fh.out.lt) Fh.out.lt).trans d1h; go_simp; first | done | with_reducible rfl)
       simp only [sX1, sX2, sX3]
       refine takeL 5 99 (v := ?_) rfl rfl (by kernel_rfl) (by kernel_rfl) (by kernel_rfl) (by kernel_rfl) (by kernel_rfl) (fun _ _ _ h => h) (by rfl) ?_ (by assumption) ?_
       rotate_left
       ·(intro w hSw; have x0 := (hSw.cell (p := ⟨b15, 0, none⟩) (Nat.not_le_of_lt Fg.out.lt) Fg.out.lt).trans d0g; have x1 := (hSw.cell (p := ⟨b15, 1, none⟩) (Nat.not_le_of_lt Fg.out.lt) Fg.out.lt).trans d1g; go_simp; first | done | with_reducible rfl)
       simp only [sX1, sX2, sX3]
       clear d0o d1o d0h d1h d0g d1g
       clear Fh Fo Fg
       have HJs : Hid (w10.heap.size ≤ w11.heap.size) := hZ HJ.out.size
       refine forkL [2, 7, 8] (by kernel_rfl) (by simp) ⟨forkOneL 2 rfl (fun K hK => ?_), forkOneL 7 rfl (fun K hK => ?_), forkOneL 8 rfl (fun K hK => ?_), trivial⟩
       ·as_aux_lemma =>
        go_simp
        refine (over_b (w := w11) Vo.out Vg.out Sy.out Sg.out hdv0 (by omega) (by omega)).mono ?_
        rintro e w12 ⟨s_k, a_k, n_k, c_k, rfl, h_k, hB⟩
        have Vk := hZ h_k
        replace HBr := hZ (HBr.out.trans (Only.of_below hB))
        replace Vo := hZ (Vo.out.blw hB)
        replace Vh := hZ (Vh.out.blw hB)
        replace Vg := hZ (Vg.out.blw hB)
        replace HJ := hZ (HJ.out.trans (hB.mono HJ.out.size))
        clear hB
        clear h_k
        refine hK.out _ _ HBr.out (fun hHeld => ?_)
        clear hK K
        try simp only [Act.put, sX1, sX2, sX3]
        refine forkL [3, 7, 8] (by kernel_rfl) (by simp) ⟨forkOneL 3 rfl (fun K hK => ?_), forkOneL 7 rfl (fun K hK => ?_), forkOneL 8 rfl (fun K hK => ?_), trivial⟩
        ·as_aux_lemma =>
         go_simp
         refine (neg_b (w := w12) Vk.out (Sy.out.div hdv0) (by omega)).mono ?_
         rintro e w13 ⟨s_c, a_c, n_c, c_c, rfl, h_c, hB⟩
         have Vc := hZ h_c
         replace HBr := hZ (HBr.out.trans (Only.of_below hB))
         replace Vo := hZ (Vo.out.blw hB)
         replace Vh := hZ (Vh.out.blw hB)
         replace Vg := hZ (Vg.out.blw hB)
         replace Vk := hZ (Vk.out.blw hB)
         replace HJ := hZ (HJ.out.trans (hB.mono HJ.out.size))
         clear hB
         clear h_c
         refine hK.out _ _ HBr.out (fun hHeld => ?_)
         clear hK K
         try simp only [Act.put, sX1, sX2, sX3]
         refine forkL [6, 7, 8] (by kernel_rfl) (by simp) ⟨forkOneL 6 rfl (fun K hK => ?_), forkOneL 7 rfl (fun K hK => ?_), forkOneL 8 rfl (fun K hK => ?_), trivial⟩
         ·as_aux_lemma =>
          go_simp
          refine (over_b (w := w13) Vh.out Vg.out Sx.out Sg.out hdv0 (by omega) (by omega)).mono ?_
          rintro e w14 ⟨s_d, a_d, n_d, c_d, rfl, h_d, hB⟩
          have Vd := hZ h_d
          replace HBr := hZ (HBr.out.trans (Only.of_below hB))
          replace Vo := hZ (Vo.out.blw hB)
          replace Vh := hZ (Vh.out.blw hB)
          replace Vg := hZ (Vg.out.blw hB)
          replace Vk := hZ (Vk.out.blw hB)
          replace Vc := hZ (Vc.out.blw hB)
          replace HJ := hZ (HJ.out.trans (hB.mono HJ.out.size))
          clear hB
          clear h_d
          refine hK.out _ _ HBr.out (fun hHeld => ?_)
          clear hK K
          try simp only [Act.put, sX1, sX2, sX3]
          refine forkL [7, 8] (by kernel_rfl) (by simp) ⟨forkOneL 7 rfl (fun K hK => ?_), forkOneL 8 rfl (fun K hK => ?_), trivial⟩
          ·as_aux_lemma =>
           go_simp
           obtain ⟨w15, hw⟩ : ∃ w', w14.alloc (.cells #[.bool false, .slice none 0 0] 58) = w' := ⟨_, rfl⟩
           have hB : Below w14.heap.size w14 w15 := by rw [← hw]; exact (Below.refl _ _).alloc (Nat.le_refl _) _
           obtain ⟨b18, hb⟩ : ∃ b, w14.heap.size = b := ⟨_, rfl⟩
           have Fc' : Hid (Bx w15 b18 0) := hZ (by rw [← hw, ← hb]; exact Bx.new (wint_zero _))
           have hge_b18 : w11.heap.size ≤ b18 := by rw [← hb]; exact HBr.out.size
           replace HBr := hZ (HBr.out.trans (Only.of_below hB))
           replace Vo := hZ (Vo.out.blw hB)
           replace Vh := hZ (Vh.out.blw hB)
           replace Vg := hZ (Vg.out.blw hB)
           replace Vk := hZ (Vk.out.blw hB)
           replace Vc := hZ (Vc.out.blw hB)
           replace Vd := hZ (Vd.out.blw hB)
           replace HJ := hZ (HJ.out.trans (hB.mono HJ.out.size))
           clear hB
           have Fc := Fc'
           clear Fc'
           rw [hw]
           try rw [hb]
           clear hw hb
           refine hK.out _ _ HBr.out (fun hHeld => ?_)
           clear hK K
           try simp only [Act.put, sX1, sX2, sX3]
           refine stepL 8 (by kernel_rfl) rfl (fun K hK => ?_)
           go_simp
           obtain ⟨w16, hw⟩ : ∃ w', w15.alloc (.cells #[.bool false, .slice none 0 0] 58) = w' := ⟨_, rfl⟩
           have hB : Below w15.heap.size w15 w16 := by rw [← hw]; exact (Below.refl _ _).alloc (Nat.le_refl _) _
           obtain ⟨b19, hb⟩ : ∃ b, w15.heap.size = b := ⟨_, rfl⟩
           have Fd' : Hid (Bx w16 b19 0) := hZ (by rw [← hw, ← hb]; exact Bx.new (wint_zero _))
           have hge_b19 : w11.heap.size ≤ b19 := by rw [← hb]; exact HBr.out.size
           have hne_b18_b19 : b18 < b19 := by rw [← hb]; exact Fc.out.lt
           replace HBr := hZ (HBr.out.trans (Only.of_below hB))
           replace Vo := hZ (Vo.out.blw hB)
           replace Vh := hZ (Vh.out.blw hB)
           replace Vg := hZ (Vg.out.blw hB)
           replace Vk := hZ (Vk.out.blw hB)
           replace Vc := hZ (Vc.out.blw hB)
           replace Vd := hZ (Vd.out.blw hB)
           replace Fc := hZ (Fc.out.blw hB)
           replace HJ := hZ (HJ.out.trans (hB.mono HJ.out.size))
           clear hB
           have Fd := Fd'
           clear Fd'
           rw [hw]
           try rw [hb]
           clear hw hb
           refine hK.out _ _ HBr.out (fun hHeld => ?_)
           clear hK K
           try simp only [Act.put, sX1, sX2, sX3]
           obtain ⟨s_9, a_9, n_9, c_9, t_9, -⟩ := Fc.out
           have e0 := t_9.cell0
           have e1 := t_9.cell1
           have e2 := t_9.frozen 0
           have e3 := t_9.frozen 1
           clear t_9
           have hn9 : NoInt w16 (b18) := Fc.out.noInt
           obtain ⟨w17, hw⟩ : ∃ w', (w16.setCell ⟨b18, 0, none⟩ (.bool s_c)).setCell ⟨b18, 1, none⟩ (.slice a_c n_c c_c) = w' := ⟨_, rfl⟩
           have hw2 : st2 w16 (b18) (0) (1) s_c a_c n_c c_c = w17 := hw
           replace Fc := hZ (Bx.put Fc.out Vc.out)
           rw [hw2] at Fc
           replace Vo := hZ (Vo.out.offe hw2 hn9)
           replace Vh := hZ (Vh.out.offe hw2 hn9)
           replace Vg := hZ (Vg.out.offe hw2 hn9)
           replace Vk := hZ (Vk.out.offe hw2 hn9)
           replace Vc := hZ (Vc.out.offe hw2 hn9)
           replace Vd := hZ (Vd.out.offe hw2 hn9)
           replace Fd := hZ (Fd.out.offe hw2 hn9 (by omega))
           replace HJ := hZ (below_off (g := b18) (o1 := 0) (o2 := 1) (s := s_c) (a := a_c) (n := n_c) (c := c_c) HJ.out (by have := HJs.out; omega))
           rw [hw2] at HJ
           clear hw2 hn9
           replace HBr := hZ (HBr.out.off (g := b18) (o1 := 0) (o2 := 1) (s := s_c) (a := a_c) (n := n_c) (c := c_c) (show w11.heap.size ≤ b18 from hge_b18))
           rw [show st2 w16 (b18) 0 1 s_c a_c n_c c_c = w17 from hw] at HBr
           refine stepL 9 (by kernel_rfl) rfl (fun K hK => ?_)
           go_simp
           try rw [hw]
           refine hK.out _ _ HBr.out (fun hHeld => ?_)
           clear hK K
           try simp only [Act.put, sX1, sX2, sX3]
           clear hw e0 e1 e2 e3
           obtain ⟨s_9, a_9, n_9, c_9, t_9, -⟩ := Fd.out
           have e0 := t_9.cell0
           have e1 := t_9.cell1
           have e2 := t_9.frozen 0
           have e3 := t_9.frozen 1
           clear t_9
           have hn9 : NoInt w17 (b19) := Fd.out.noInt
           obtain ⟨w18, hw⟩ : ∃ w', (w17.setCell ⟨b19, 0, none⟩ (.bool s_d)).setCell ⟨b19, 1, none⟩ (.slice a_d n_d c_d) = w' := ⟨_, rfl⟩
           have hw2 : st2 w17 (b19) (0) (1) s_d a_d n_d c_d = w18 := hw
           replace Fd := hZ (Bx.put Fd.out Vd.out)
           rw [hw2] at Fd
           replace Vo := hZ (Vo.out.offe hw2 hn9)
           replace Vh := hZ (Vh.out.offe hw2 hn9)
           replace Vg := hZ (Vg.out.offe hw2 hn9)
           replace Vk := hZ (Vk.out.offe hw2 hn9)
           replace Vc := hZ (Vc.out.offe hw2 hn9)
           replace Vd := hZ (Vd.out.offe hw2 hn9)
           replace Fc := hZ (Fc.out.offe hw2 hn9 (by omega))
           replace HJ := hZ (below_off (g := b19) (o1 := 0) (o2 := 1) (s := s_d) (a := a_d) (n := n_d) (c := c_d) HJ.out (by have := HJs.out; omega))
           rw [hw2] at HJ
           clear hw2 hn9
           refine lateL 10 (by kernel_rfl) (by decide) rfl (fun K hK => ?_)
           go_simp
           try rw [hw]
           refine hK.out _ _ ?_
           clear hK K
           try simp only [Act.put, sX1, sX2, sX3]
           clear hw e0 e1 e2 e3
           refine doneL (by kernel_rfl) ?_ _
           clear hHeld
           refine joinQ_normal ⟨_, _, _, _, _, _, _, _, _, by first | rfl | (simp only [sX1, sX2, sX3]; rfl), Fc, Fd, HJ, hZ (by have := HJs.out; omega)⟩
          ·as_aux_lemma =>
           go_simp
           obtain ⟨w15, hw⟩ : ∃ w', w14.alloc (.cells #[.bool false, .slice none 0 0] 58) = w' := ⟨_, rfl⟩
           have hB : Below w14.heap.size w14 w15 := by rw [← hw]; exact (Below.refl _ _).alloc (Nat.le_refl _) _
           obtain ⟨b19, hb⟩ : ∃ b, w14.heap.size = b := ⟨_, rfl⟩
           have Fd' : Hid (Bx w15 b19 0) := hZ (by rw [← hw, ← hb]; exact Bx.new (wint_zero _))
           have hge_b19 : w11.heap.size ≤ b19 := by rw [← hb]; exact HBr.out.size
           replace HBr := hZ (HBr.out.trans (Only.of_below hB))
           replace Vo := hZ (Vo.out.blw hB)
           replace Vh := hZ (Vh.out.blw hB)
           replace Vg := hZ (Vg.out.blw hB)
           replace Vk := hZ (Vk.out.blw hB)
           replace Vc := hZ (Vc.out.blw hB)
           replace Vd := hZ (Vd.out.blw hB)
           replace HJ := hZ (HJ.out.trans (hB.mono HJ.out.size))
           clear hB
           have Fd := Fd'
           clear Fd'
           rw [hw]
           try rw [hb]
           clear hw hb
           refine hK.out _ _ HBr.out (fun hHeld => ?_)
           clear hK K
           try simp only [Act.put, sX1, sX2, sX3]
           refine stepL 7 (by kernel_rfl) rfl (fun K hK => ?_)
           go_simp
           obtain ⟨w16, hw⟩ : ∃ w', w15.alloc (.cells #[.bool false, .slice none 0 0] 58) = w' := ⟨_, rfl⟩
           have hB : Below w15.heap.size w15 w16 := by rw [← hw]; exact (Below.refl _ _).alloc (Nat.le_refl _) _
           obtain ⟨b18, hb⟩ : ∃ b, w15.heap.size = b := ⟨_, rfl⟩
           have Fc' : Hid (Bx w16 b18 0) := hZ (by rw [← hw, ← hb]; exact Bx.new (wint_zero _))
           have hge_b18 : w11.heap.size ≤ b18 := by rw [← hb]; exact HBr.out.size
           have hne_b19_b18 : b19 < b18 := by rw [← hb]; exact Fd.out.lt
           replace HBr := hZ (HBr.out.trans (Only.of_below hB))
           replace Vo := hZ (Vo.out.blw hB)
           replace Vh := hZ (Vh.out.blw hB)
           replace Vg := hZ (Vg.out.blw hB)
           replace Vk := hZ (Vk.out.blw hB)
           replace Vc := hZ (Vc.out.blw hB)
           replace Vd := hZ (Vd.out.blw hB)
           replace Fd := hZ (Fd.out.blw hB)
           replace HJ := hZ (HJ.out.trans (hB.mono HJ.out.size))
           clear hB
           have Fc := Fc'
           clear Fc'
           rw [hw]
           try rw [hb]
           clear hw hb
           refine hK.out _ _ HBr.out (fun hHeld => ?_)
           clear hK K
           try simp only [Act.put, sX1, sX2, sX3]
           obtain ⟨s_9, a_9, n_9, c_9, t_9, -⟩ := Fc.out
           have e0 := t_9.cell0
           have e1 := t_9.cell1
           have e2 := t_9.frozen 0
           have e3 := t_9.frozen 1
           clear t_9
           have hn9 : NoInt w16 (b18) := Fc.out.noInt
           obtain ⟨w17, hw⟩ : ∃ w', (w16.setCell ⟨b18, 0, none⟩ (.bool s_c)).setCell ⟨b18, 1, none⟩ (.slice a_c n_c c_c) = w' := ⟨_, rfl⟩
           have hw2 : st2 w16 (b18) (0) (1) s_c a_c n_c c_c = w17 := hw
           replace Fc := hZ (Bx.put Fc.out Vc.out)
           rw [hw2] at Fc
           replace Vo := hZ (Vo.out.offe hw2 hn9)
           replace Vh := hZ (Vh.out.offe hw2 hn9)
           replace Vg := hZ (Vg.out.offe hw2 hn9)
           replace Vk := hZ (Vk.out.offe hw2 hn9)
           replace Vc := hZ (Vc.out.offe hw2 hn9)
           replace Vd := hZ (Vd.out.offe hw2 hn9)
           replace Fd := hZ (Fd.out.offe hw2 hn9 (by omega))
           replace HJ := hZ (below_off (g := b18) (o1 := 0) (o2 := 1) (s := s_c) (a := a_c) (n := n_c) (c := c_c) HJ.out (by have := HJs.out; omega))
           rw [hw2] at HJ
           clear hw2 hn9
           replace HBr := hZ (HBr.out.off (g := b18) (o1 := 0) (o2 := 1) (s := s_c) (a := a_c) (n := n_c) (c := c_c) (show w11.heap.size ≤ b18 from hge_b18))
           rw [show st2 w16 (b18) 0 1 s_c a_c n_c c_c = w17 from hw] at HBr
           refine stepL 9 (by kernel_rfl) rfl (fun K hK => ?_)
           go_simp
           try rw [hw]
           refine hK.out _ _ HBr.out (fun hHeld => ?_)
           clear hK K
           try simp only [Act.put, sX1, sX2, sX3]
           clear hw e0 e1 e2 e3
           obtain ⟨s_9, a_9, n_9, c_9, t_9, -⟩ := Fd.out
           have e0 := t_9.cell0
           have e1 := t_9.cell1
           have e2 := t_9.frozen 0
           have e3 := t_9.frozen 1
           clear t_9
           have hn9 : NoInt w17 (b19) := Fd.out.noInt
           obtain ⟨w18, hw⟩ : ∃ w', (w17.setCell ⟨b19, 0, none⟩ (.bool s_d)).setCell ⟨b19, 1, none⟩ (.slice a_d n_d c_d) = w' := ⟨_, rfl⟩
           have hw2 : st2 w17 (b19) (0) (1) s_d a_d n_d c_d = w18 := hw
           replace Fd := hZ (Bx.put Fd.out Vd.out)
           rw [hw2] at Fd
           replace Vo := hZ (Vo.out.offe hw2 hn9)
           replace Vh := hZ (Vh.out.offe hw2 hn9)
           replace Vg := hZ (Vg.out.offe hw2 hn9)
           replace Vk := hZ (Vk.out.offe hw2 hn9)
           replace Vc := hZ (Vc.out.offe hw2 hn9)
           replace Vd := hZ (Vd.out.offe hw2 hn9)
           replace Fc := hZ (Fc.out.offe hw2 hn9 (by omega))
           replace HJ := hZ (below_off (g := b19) (o1 := 0) (o2 := 1) (s := s_d) (a := a_d) (n := n_d) (c := c_d) HJ.out (by have := HJs.out; omega))
           rw [hw2] at HJ
           clear hw2 hn9
           refine lateL 10 (by kernel_rfl) (by decide) rfl (fun K hK => ?_)
           go_simp
           try rw [hw]
           refine hK.out _ _ ?_
           clear hK K
           try simp only [Act.put, sX1, sX2, sX3]
           clear hw e0 e1 e2 e3
           refine doneL (by kernel_rfl) ?_ _
           clear hHeld
           refine joinQ_normal ⟨_, _, _, _, _, _, _, _, _, by first | rfl | (simp only [sX1, sX2, sX3]; rfl), Fc, Fd, HJ, hZ (by have := HJs.out; omega)⟩
         ·as_aux_lemma =>
          go_simp
          obtain ⟨w14, hw⟩ : ∃ w', w13.alloc (.cells #[.bool false, .slice none 0 0] 58) = w' := ⟨_, rfl⟩
          have hB : Below w13.heap.size w13 w14 := by rw [← hw]; exact (Below.refl _ _).alloc (Nat.le_refl _) _
          obtain ⟨b18, hb⟩ : ∃ b, w13.heap.size = b := ⟨_, rfl⟩
          have Fc' : Hid (Bx w14 b18 0) := hZ (by rw [← hw, ← hb]; exact Bx.new (wint_zero _))
          have hge_b18 : w11.heap.size ≤ b18 := by rw [← hb]; exact HBr.out.size
          replace HBr := hZ (HBr.out.trans (Only.of_below hB))
          replace Vo := hZ (Vo.out.blw hB)
          replace Vh := hZ (Vh.out.blw hB)
          replace Vg := hZ (Vg.out.blw hB)
          replace Vk := hZ (Vk.out.blw hB)
          replace Vc := hZ (Vc.out.blw hB)
          replace HJ := hZ (HJ.out.trans (hB.mono HJ.out.size))
          clear hB
          have Fc := Fc'
          clear Fc'
          rw [hw]
          try rw [hb]
          clear hw hb
          refine hK.out _ _ HBr.out (fun hHeld => ?_)
          clear hK K
          try simp only [Act.put, sX1, sX2, sX3]
          refine forkL [6, 8] (by kernel_rfl) (by simp) ⟨forkOneL 6 rfl (fun K hK => ?_), forkOneL 8 rfl (fun K hK => ?_), trivial⟩
          ·as_aux_lemma =>
           go_simp
           refine (over_b (w := w14) Vh.out Vg.out Sx.out Sg.out hdv0 (by omega) (by omega)).mono ?_
           rintro e w15 ⟨s_d, a_d, n_d, c_d, rfl, h_d, hB⟩
           have Vd := hZ h_d
           replace HBr := hZ (HBr.out.trans (Only.of_below hB))
           replace Vo := hZ (Vo.out.blw hB)
           replace Vh := hZ (Vh.out.blw hB)
           replace Vg := hZ (Vg.out.blw hB)
           replace Vk := hZ (Vk.out.blw hB)
           replace Vc := hZ (Vc.out.blw hB)
           replace Fc := hZ (Fc.out.blw hB)
           replace HJ := hZ (HJ.out.trans (hB.mono HJ.out.size))
           clear hB
           clear h_d
           refine hK.out _ _ HBr.out (fun hHeld => ?_)
           clear hK K
           try simp only [Act.put, sX1, sX2, sX3]
           refine stepL 8 (by kernel_rfl) rfl (fun K hK => ?_)
           go_simp
           obtain ⟨w16, hw⟩ : ∃ w', w15.alloc (.cells #[.bool false, .slice none 0 0] 58) = w' := ⟨_, rfl⟩
           have hB : Below w15.heap.size w15 w16 := by rw [← hw]; exact (Below.refl _ _).alloc (Nat.le_refl _) _
           obtain ⟨b19, hb⟩ : ∃ b, w15.heap.size = b := ⟨_, rfl⟩
           have Fd' : Hid (Bx w16 b19 0) := hZ (by rw [← hw, ← hb]; exact Bx.new (wint_zero _))
           have hge_b19 : w11.heap.size ≤ b19 := by rw [← hb]; exact HBr.out.size
           have hne_b18_b19 : b18 < b19 := by rw [← hb]; exact Fc.out.lt
           replace HBr := hZ (HBr.out.trans (Only.of_below hB))
           replace Vo := hZ (Vo.out.blw hB)
           replace Vh := hZ (Vh.out.blw hB)
           replace Vg := hZ (Vg.out.blw hB)
           replace Vk := hZ (Vk.out.blw hB)
           replace Vc := hZ (Vc.out.blw hB)
           replace Fc := hZ (Fc.out.blw hB)
           replace Vd := hZ (Vd.out.blw hB)
           replace HJ := hZ (HJ.out.trans (hB.mono HJ.out.size))
           clear hB
           have Fd := Fd'
           clear Fd'
           rw [hw]
           try rw [hb]
           clear hw hb
           refine hK.out _ _ HBr.out (fun hHeld => ?_)
           clear hK K
           try simp only [Act.put, sX1, sX2, sX3]
           obtain ⟨s_9, a_9, n_9, c_9, t_9, -⟩ := Fc.out
           have e0 := t_9.cell0
           have e1 := t_9.cell1
           have e2 := t_9.frozen 0
           have e3 := t_9.frozen 1
           clear t_9
           have hn9 : NoInt w16 (b18) := Fc.out.noInt
           obtain ⟨w17, hw⟩ : ∃ w', (w16.setCell ⟨b18, 0, none⟩ (.bool s_c)).setCell ⟨b18, 1, none⟩ (.slice a_c n_c c_c) = w' := ⟨_, rfl⟩
           have hw2 : st2 w16 (b18) (0) (1) s_c a_c n_c c_c = w17 := hw
           replace Fc := hZ (Bx.put Fc.out Vc.out)
           rw [hw2] at Fc
           replace Vo := hZ (Vo.out.offe hw2 hn9)
           replace Vh := hZ (Vh.out.offe hw2 hn9)
           replace Vg := hZ (Vg.out.offe hw2 hn9)
           replace Vk := hZ (Vk.out.offe hw2 hn9)
           replace Vc := hZ (Vc.out.offe hw2 hn9)
           replace Vd := hZ (Vd.out.offe hw2 hn9)
           replace Fd := hZ (Fd.out.offe hw2 hn9 (by omega))
           replace HJ := hZ (below_off (g := b18) (o1 := 0) (o2 := 1) (s := s_c) (a := a_c) (n := n_c) (c := c_c) HJ.out (by have := HJs.out; omega))
           rw [hw2] at HJ
           clear hw2 hn9
           replace HBr := hZ (HBr.out.off (g := b18) (o1 := 0) (o2 := 1) (s := s_c) (a := a_c) (n := n_c) (c := c_c) (show w11.heap.size ≤ b18 from hge_b18))
           rw [show st2 w16 (b18) 0 1 s_c a_c n_c c_c = w17 from hw] at HBr
           refine stepL 9 (by kernel_rfl) rfl (fun K hK => ?_)
           go_simp
           try rw [hw]
           refine hK.out _ _ HBr.out (fun hHeld => ?_)
           clear hK K
           try simp only [Act.put, sX1, sX2, sX3]
           clear hw e0 e1 e2 e3
           obtain ⟨s_9, a_9, n_9, c_9, t_9, -⟩ := Fd.out
           have e0 := t_9.cell0
           have e1 := t_9.cell1
           have e2 := t_9.frozen 0
           have e3 := t_9.frozen 1
           clear t_9
           have hn9 : NoInt w17 (b19) := Fd.out.noInt
           obtain ⟨w18, hw⟩ : ∃ w', (w17.setCell ⟨b19, 0, none⟩ (.bool s_d)).setCell ⟨b19, 1, none⟩ (.slice a_d n_d c_d) = w' := ⟨_, rfl⟩
           have hw2 : st2 w17 (b19) (0) (1) s_d a_d n_d c_d = w18 := hw
           replace Fd := hZ (Bx.put Fd.out Vd.out)
           rw [hw2] at Fd
           replace Vo := hZ (Vo.out.offe hw2 hn9)
           replace Vh := hZ (Vh.out.offe hw2 hn9)
           replace Vg := hZ (Vg.out.offe hw2 hn9)
           replace Vk := hZ (Vk.out.offe hw2 hn9)
           replace Vc := hZ (Vc.out.offe hw2 hn9)
           replace Fc := hZ (Fc.out.offe hw2 hn9 (by omega))
           replace Vd := hZ (Vd.out.offe hw2 hn9)
           replace HJ := hZ (below_off (g := b19) (o1 := 0) (o2 := 1) (s := s_d) (a := a_d) (n := n_d) (c := c_d) HJ.out (by have := HJs.out; omega))
           rw [hw2] at HJ
           clear hw2 hn9
           refine lateL 10 (by kernel_rfl) (by decide) rfl (fun K hK => ?_)
           go_simp
           try rw [hw]
           refine hK.out _ _ ?_
           clear hK K
           try simp only [Act.put, sX1, sX2, sX3]
           clear hw e0 e1 e2 e3
           refine doneL (by kernel_rfl) ?_ _
           clear hHeld
           refine joinQ_normal ⟨_, _, _, _, _, _, _, _, _, by first | rfl | (simp only [sX1, sX2, sX3]; rfl), Fc, Fd, HJ, hZ (by have := HJs.out; omega)⟩
          ·as_aux_lemma =>
           go_simp
           obtain ⟨w15, hw⟩ : ∃ w', w14.alloc (.cells #[.bool false, .slice none 0 0] 58) = w' := ⟨_, rfl⟩
           have hB : Below w14.heap.size w14 w15 := by rw [← hw]; exact (Below.refl _ _).alloc (Nat.le_refl _) _
           obtain ⟨b19, hb⟩ : ∃ b, w14.heap.size = b := ⟨_, rfl⟩
           have Fd' : Hid (Bx w15 b19 0) := hZ (by rw [← hw, ← hb]; exact Bx.new (wint_zero _))
           have hge_b19 : w11.heap.size ≤ b19 := by rw [← hb]; exact HBr.out.size
           have hne_b18_b19 : b18 < b19 := by rw [← hb]; exact Fc.out.lt
           replace HBr := hZ (HBr.out.trans (Only.of_below hB))
           replace Vo := hZ (Vo.out.blw hB)
           replace Vh := hZ (Vh.out.blw hB)
           replace Vg := hZ (Vg.out.blw hB)
           replace Vk := hZ (Vk.out.blw hB)
           replace Vc := hZ (Vc.out.blw hB)
           replace Fc := hZ (Fc.out.blw hB)
           replace HJ := hZ (HJ.out.trans (hB.mono HJ.out.size))
           clear hB
           have Fd := Fd'
           clear Fd'
           rw [hw]
           try rw [hb]
           clear hw hb
           refine hK.out _ _ HBr.out (fun hHeld => ?_)
           clear hK K
           try simp only [Act.put, sX1, sX2, sX3]
           refine stepL 6 (by kernel_rfl) rfl (fun K hK => ?_)
           go_simp
           refine (over_b (w := w15) Vh.out Vg.out Sx.out Sg.out hdv0 (by omega) (by omega)).mono ?_
           rintro e w16 ⟨s_d, a_d, n_d, c_d, rfl, h_d, hB⟩
           have Vd := hZ h_d
           replace HBr := hZ (HBr.out.trans (Only.of_below hB))
           replace Vo := hZ (Vo.out.blw hB)
           replace Vh := hZ (Vh.out.blw hB)
           replace Vg := hZ (Vg.out.blw hB)
           replace Vk := hZ (Vk.out.blw hB)
           replace Vc := hZ (Vc.out.blw hB)
           replace Fc := hZ (Fc.out.blw hB)
           replace Fd := hZ (Fd.out.blw hB)
           replace HJ := hZ (HJ.out.trans (hB.mono HJ.out.size))
           clear hB
           clear h_d
           refine hK.out _ _ HBr.out (fun hHeld => ?_)
           clear hK K
           try simp only [Act.put, sX1, sX2, sX3]
           obtain ⟨s_9, a_9, n_9, c_9, t_9, -⟩ := Fc.out
           have e0 := t_9.cell0
           have e1 := t_9.cell1
           have e2 := t_9.frozen 0
           have e3 := t_9.frozen 1
           clear t_9
           have hn9 : NoInt w16 (b18) := Fc.out.noInt
           obtain ⟨w17, hw⟩ : ∃ w', (w16.setCell ⟨b18, 0, none⟩ (.bool s_c)).setCell ⟨b18, 1, none⟩ (.slice a_c n_c c_c) = w' := ⟨_, rfl⟩
           have hw2 : st2 w16 (b18) (0) (1) s_c a_c n_c c_c = w17 := hw
           replace Fc := hZ (Bx.put Fc.out Vc.out)
           rw [hw2] at Fc
           replace Vo := hZ (Vo.out.offe hw2 hn9)
           replace Vh := hZ (Vh.out.offe hw2 hn9)
           replace Vg := hZ (Vg.out.offe hw2 hn9)
           replace Vk := hZ (Vk.out.offe hw2 hn9)
           replace Vc := hZ (Vc.out.offe hw2 hn9)
           replace Fd := hZ (Fd.out.offe hw2 hn9 (by omega))
           replace Vd := hZ (Vd.out.offe hw2 hn9)
           replace HJ := hZ (below_off (g := b18) (o1 := 0) (o2 := 1) (s := s_c) (a := a_c) (n := n_c) (c := c_c) HJ.out (by have := HJs.out; omega))
           rw [hw2] at HJ
           clear hw2 hn9
           replace HBr := hZ (HBr.out.off (g := b18) (o1 := 0) (o2 := 1) (s := s_c) (a := a_c) (n := n_c) (c := c_c) (show w11.heap.size ≤ b18 from hge_b18))
           rw [show st2 w16 (b18) 0 1 s_c a_c n_c c_c = w17 from hw] at HBr
           refine stepL 9 (by kernel_rfl) rfl (fun K hK => ?_)
           go_simp
           try rw [hw]
           refine hK.out _ _ HBr.out (fun hHeld => ?_)
           clear hK K
           try simp only [Act.put, sX1, sX2, sX3]
           clear hw e0 e1 e2 e3
           obtain ⟨s_9, a_9, n_9, c_9, t_9, -⟩ := Fd.out
           have e0 := t_9.cell0
           have e1 := t_9.cell1
           have e2 := t_9.frozen 0
           have e3 := t_9.frozen 1
           clear t_9
           have hn9 : NoInt w17 (b19) := Fd.out.noInt
           obtain ⟨w18, hw⟩ : ∃ w', (w17.setCell ⟨b19, 0, none⟩ (.bool s_d)).setCell ⟨b19, 1, none⟩ (.slice a_d n_d c_d) = w' := ⟨_, rfl⟩
           have hw2 : st2 w17 (b19) (0) (1) s_d a_d n_d c_d = w18 := hw
           replace Fd := hZ (Bx.put Fd.out Vd.out)
           rw [hw2] at Fd
           replace Vo := hZ (Vo.out.offe hw2 hn9)
           replace Vh := hZ (Vh.out.offe hw2 hn9)
           replace Vg := hZ (Vg.out.offe hw2 hn9)
           replace Vk := hZ (Vk.out.offe hw2 hn9)
           replace Vc := hZ (Vc.out.offe hw2 hn9)
           replace Fc := hZ (Fc.out.offe hw2 hn9 (by omega))
           replace Vd := hZ (Vd.out.offe hw2 hn9)
           replace HJ := hZ (below_off (g := b19) (o1 := 0) (o2 := 1) (s := s_d) (a := a_d) (n := n_d) (c := c_d) HJ.out (by have := HJs.out; omega))
           rw [hw2] at HJ
           clear hw2 hn9
           refine lateL 10 (by kernel_rfl) (by decide) rfl (fun K hK => ?_)
           go_simp
           try rw [hw]
           refine hK.out _ _ ?_
           clear hK K
           try simp only [Act.put, sX1, sX2, sX3]
           clear hw e0 e1 e2 e3
           refine doneL (by kernel_rfl) ?_ _
           clear hHeld
           refine joinQ_normal ⟨_, _, _, _, _, _, _, _, _, by first | rfl | (simp only [sX1, sX2, sX3]; rfl), Fc, Fd, HJ, hZ (by have := HJs.out; omega)⟩
         ·as_aux_lemma =>
          go_simp
          obtain ⟨w14, hw⟩ : ∃ w', w13.alloc (.cells #[.bool false, .slice none 0 0] 58) = w' := ⟨_, rfl⟩
          have hB : Below w13.heap.size w13 w14 := by rw [← hw]; exact (Below.refl _ _).alloc (Nat.le_refl _) _
          obtain ⟨b19, hb⟩ : ∃ b, w13.heap.size = b := ⟨_, rfl⟩
          have Fd' : Hid (Bx w14 b19 0) := hZ (by rw [← hw, ← hb]; exact Bx.new (wint_zero _))
          have hge_b19 : w11.heap.size ≤ b19 := by rw [← hb]; exact HBr.out.size
          replace HBr := hZ (HBr.out.trans (Only.of_below hB))
          replace Vo := hZ (Vo.out.blw hB)
          replace Vh := hZ (Vh.out.blw hB)
          replace Vg := hZ (Vg.out.blw hB)
          replace Vk := hZ (Vk.out.blw hB)
          replace Vc := hZ (Vc.out.blw hB)
          replace HJ := hZ (HJ.out.trans (hB.mono HJ.out.size))
          clear hB
          have Fd := Fd'
          clear Fd'
          rw [hw]
          try rw [hb]
          clear hw hb
          refine hK.out _ _ HBr.out (fun hHeld => ?_)
          clear hK K
          try simp only [Act.put, sX1, sX2, sX3]
          refine forkL [6, 7] (by kernel_rfl) (by simp) ⟨forkOneL 6 rfl (fun K hK => ?_), forkOneL 7 rfl (fun K hK => ?_), trivial⟩
          ·as_aux_lemma =>
           go_simp
           refine (over_b (w := w14) Vh.out Vg.out Sx.out Sg.out hdv0 (by omega) (by omega)).mono ?_
           rintro e w15 ⟨s_d, a_d, n_d, c_d, rfl, h_d, hB⟩
           have Vd := hZ h_d
           replace HBr := hZ (HBr.out.trans (Only.of_below hB))
           replace Vo := hZ (Vo.out.blw hB)
           replace Vh := hZ (Vh.out.blw hB)
           replace Vg := hZ (Vg.out.blw hB)
           replace Vk := hZ (Vk.out.blw hB)
           replace Vc := hZ (Vc.out.blw hB)
           replace Fd := hZ (Fd.out.blw hB)
           replace HJ := hZ (HJ.out.trans (hB.mono HJ.out.size))
           clear hB
           clear h_d
           refine hK.out _ _ HBr.out (fun hHeld => ?_)
           clear hK K
           try simp only [Act.put, sX1, sX2, sX3]
           refine stepL 7 (by kernel_rfl) rfl (fun K hK => ?_)
           go_simp
           obtain ⟨w16, hw⟩ : ∃ w', w15.alloc (.cells #[.bool false, .slice none 0 0] 58) = w' := ⟨_, rfl⟩
           have hB : Below w15.heap.size w15 w16 := by rw [← hw]; exact (Below.refl _ _).alloc (Nat.le_refl _) _
           obtain ⟨b18, hb⟩ : ∃ b, w15.heap.size = b := ⟨_, rfl⟩
           have Fc' : Hid (Bx w16 b18 0) := hZ (by rw [← hw, ← hb]; exact Bx.new (wint_zero _))
           have hge_b18 : w11.heap.size ≤ b18 := by rw [← hb]; exact HBr.out.size
           have hne_b19_b18 : b19 < b18 := by rw [← hb]; exact Fd.out.lt
           replace HBr := hZ (HBr.out.trans (Only.of_below hB))
           replace Vo := hZ (Vo.out.blw hB)
           replace Vh := hZ (Vh.out.blw hB)
           replace Vg := hZ (Vg.out.blw hB)
           replace Vk := hZ (Vk.out.blw hB)
           replace Vc := hZ (Vc.out.blw hB)
           replace Fd := hZ (Fd.out.blw hB)
           replace Vd := hZ (Vd.out.blw hB)
           replace HJ := hZ (HJ.out.trans (hB.mono HJ.out.size))
           clear hB
           have Fc := Fc'
           clear Fc'
           rw [hw]
           try rw [hb]
           clear hw hb
           refine hK.out _ _ HBr.out (fun hHeld => ?_)
           clear hK K
           try simp only [Act.put, sX1, sX2, sX3]
           obtain ⟨s_9, a_9, n_9, c_9, t_9, -⟩ := Fc.out
           have e0 := t_9.cell0
           have e1 := t_9.cell1
           have e2 := t_9.frozen 0
           have e3 := t_9.frozen 1
           clear t_9
           have hn9 : NoInt w16 (b18) := Fc.out.noInt
           obtain ⟨w17, hw⟩ : ∃ w', (w16.setCell ⟨b18, 0, none⟩ (.bool s_c)).setCell ⟨b18, 1, none⟩ (.slice a_c n_c c_c) = w' := ⟨_, rfl⟩
           have hw2 : st2 w16 (b18) (0) (1) s_c a_c n_c c_c = w17 := hw
           replace Fc := hZ (Bx.put Fc.out Vc.out)
           rw [hw2] at Fc
           replace Vo := hZ (Vo.out.offe hw2 hn9)
           replace Vh := hZ (Vh.out.offe hw2 hn9)
           replace Vg := hZ (Vg.out.offe hw2 hn9)
           replace Vk := hZ (Vk.out.offe hw2 hn9)
           replace Vc := hZ (Vc.out.offe hw2 hn9)
           replace Fd := hZ (Fd.out.offe hw2 hn9 (by omega))
           replace Vd := hZ (Vd.out.offe hw2 hn9)
           replace HJ := hZ (below_off (g := b18) (o1 := 0) (o2 := 1) (s := s_c) (a := a_c) (n := n_c) (c := c_c) HJ.out (by have := HJs.out; omega))
           rw [hw2] at HJ
           clear hw2 hn9
           replace HBr := hZ (HBr.out.off (g := b18) (o1 := 0) (o2 := 1) (s := s_c) (a := a_c) (n := n_c) (c := c_c) (show w11.heap.size ≤ b18 from hge_b18))
           rw [show st2 w16 (b18) 0 1 s_c a_c n_c c_c = w17 from hw] at HBr
           refine stepL 9 (by kernel_rfl) rfl (fun K hK => ?_)
           go_simp
           try rw [hw]
           refine hK.out _ _ HBr.out (fun hHeld => ?_)
           clear hK K
           try simp only [Act.put, sX1, sX2, sX3]
           clear hw e0 e1 e2 e3
           obtain ⟨s_9, a_9, n_9, c_9, t_9, -⟩ := Fd.out
           have e0 := t_9.cell0
           have e1 := t_9.cell1
           have e2 := t_9.frozen 0
           have e3 := t_9.frozen 1
           clear t_9
           have hn9 : NoInt w17 (b19) := Fd.out.noInt
           obtain ⟨w18, hw⟩ : ∃ w', (w17.setCell ⟨b19, 0, none⟩ (.bool s_d)).setCell ⟨b19, 1, none⟩ (.slice a_d n_d c_d) = w' := ⟨_, rfl⟩
           have hw2 : st2 w17 (b19) (0) (1) s_d a_d n_d c_d = w18 := hw
           replace Fd := hZ (Bx.put Fd.out Vd.out)
           rw [hw2] at Fd
           replace Vo := hZ (Vo.out.offe hw2 hn9)
           replace Vh := hZ (Vh.out.offe hw2 hn9)
           replace Vg := hZ (Vg.out.offe hw2 hn9)
           replace Vk := hZ (Vk.out.offe hw2 hn9)
           replace Vc := hZ (Vc.out.offe hw2 hn9)
           replace Vd := hZ (Vd.out.offe hw2 hn9)
           replace Fc := hZ (Fc.out.offe hw2 hn9 (by omega))
           replace HJ := hZ (below_off (g := b19) (o1 := 0) (o2 := 1) (s := s_d) (a := a_d) (n := n_d) (c := c_d) HJ.out (by have := HJs.out; omega))
           rw [hw2] at HJ
           clear hw2 hn9
           refine lateL 10 (by kernel_rfl) (by decide) rfl (fun K hK => ?_)
           go_simp
           try rw [hw]
           refine hK.out _ _ ?_
           clear hK K
           try simp only [Act.put, sX1, sX2, sX3]
           clear hw e0 e1 e2 e3
           refine doneL (by kernel_rfl) ?_ _
           clear hHeld
           refine joinQ_normal ⟨_, _, _, _, _, _, _, _, _, by first | rfl | (simp only [sX1, sX2, sX3]; rfl), Fc, Fd, HJ, hZ (by have := HJs.out; omega)⟩
          ·as_aux_lemma =>
           go_simp
           obtain ⟨w15, hw⟩ : ∃ w', w14.alloc (.cells #[.bool false, .slice none 0 0] 58) = w' := ⟨_, rfl⟩
           have hB : Below w14.heap.size w14 w15 := by rw [← hw]; exact (Below.refl _ _).alloc (Nat.le_refl _) _
           obtain ⟨b18, hb⟩ : ∃ b, w14.heap.size = b := ⟨_, rfl⟩
           have Fc' : Hid (Bx w15 b18 0) := hZ (by rw [← hw, ← hb]; exact Bx.new (wint_zero _))
           have hge_b18 : w11.heap.size ≤ b18 := by rw [← hb]; exact HBr.out.size
           have hne_b19_b18 : b19 < b18 := by rw [← hb]; exact Fd.out.lt
           replace HBr := hZ (HBr.out.trans (Only.of_below hB))
           replace Vo := hZ (Vo.out.blw hB)
           replace Vh := hZ (Vh.out.blw hB)
           replace Vg := hZ (Vg.out.blw hB)
           replace Vk := hZ (Vk.out.blw hB)
           replace Vc := hZ (Vc.out.blw hB)
           replace Fd := hZ (Fd.out.blw hB)
           replace HJ := hZ (HJ.out.trans (hB.mono HJ.out.size))
           clear hB
           have Fc := Fc'
           clear Fc'
           rw [hw]
           try rw [hb]
           clear hw hb
           refine hK.out _ _ HBr.out (fun hHeld => ?_)
           clear hK K
           try simp only [Act.put, sX1, sX2, sX3]
           refine stepL 6 (by kernel_rfl) rfl (fun K hK => ?_)
           go_simp
           refine (over_b (w := w15) Vh.out Vg.out Sx.out Sg.out hdv0 (by omega) (by omega)).mono ?_
           rintro e w16 ⟨s_d, a_d, n_d, c_d, rfl, h_d, hB⟩
           have Vd := hZ h_d
           replace HBr := hZ (HBr.out.trans (Only.of_below hB))
           replace Vo := hZ (Vo.out.blw hB)
           replace Vh := hZ (Vh.out.blw hB)
           replace Vg := hZ (Vg.out.blw hB)
           replace Vk := hZ (Vk.out.blw hB)
           replace Vc := hZ (Vc.out.blw hB)
           replace Fd := hZ (Fd.out.blw hB)
           replace Fc := hZ (Fc.out.blw hB)
           replace HJ := hZ (HJ.out.trans (hB.mono HJ.out.size))
           clear hB
           clear h_d
           refine hK.out _ _ HBr.out (fun hHeld => ?_)
           clear hK K
           try simp only [Act.put, sX1, sX2, sX3]
           obtain ⟨s_9, a_9, n_9, c_9, t_9, -⟩ := Fc.out
           have e0 := t_9.cell0
           have e1 := t_9.cell1
           have e2 := t_9.frozen 0
           have e3 := t_9.frozen 1
           clear t_9
           have hn9 : NoInt w16 (b18) := Fc.out.noInt
           obtain ⟨w17, hw⟩ : ∃ w', (w16.setCell ⟨b18, 0, none⟩ (.bool s_c)).setCell ⟨b18, 1, none⟩ (.slice a_c n_c c_c) = w' := ⟨_, rfl⟩
           have hw2 : st2 w16 (b18) (0) (1) s_c a_c n_c c_c = w17 := hw
           replace Fc := hZ (Bx.put Fc.out Vc.out)
           rw [hw2] at Fc
           replace Vo := hZ (Vo.out.offe hw2 hn9)
           replace Vh := hZ (Vh.out.offe hw2 hn9)
           replace Vg := hZ (Vg.out.offe hw2 hn9)
           replace Vk := hZ (Vk.out.offe hw2 hn9)
           replace Vc := hZ (Vc.out.offe hw2 hn9)
           replace Fd := hZ (Fd.out.offe hw2 hn9 (by omega))
           replace Vd := hZ (Vd.out.offe hw2 hn9)
           replace HJ := hZ (below_off (g := b18) (o1 := 0) (o2 := 1) (s := s_c) (a := a_c) (n := n_c) (c := c_c) HJ.out (by have := HJs.out; omega))
           rw [hw2] at HJ
           clear hw2 hn9
           replace HBr := hZ (HBr.out.off (g := b18) (o1 := 0) (o2 := 1) (s := s_c) (a := a_c) (n := n_c) (c := c_c) (show w11.heap.size ≤ b18 from hge_b18))
           rw [show st2 w16 (b18) 0 1 s_c a_c n_c c_c = w17 from hw] at HBr
           refine stepL 9 (by kernel_rfl) rfl (fun K hK => ?_)
           go_simp
           try rw [hw]
           refine hK.out _ _ HBr.out (fun hHeld => ?_)
           clear hK K
           try simp only [Act.put, sX1, sX2, sX3]
           clear hw e0 e1 e2 e3
           obtain ⟨s_9, a_9, n_9, c_9, t_9, -⟩ := Fd.out
           have e0 := t_9.cell0
           have e1 := t_9.cell1
           have e2 := t_9.frozen 0
           have e3 := t_9.frozen 1
           clear t_9
           have hn9 : NoInt w17 (b19) := Fd.out.noInt
           obtain ⟨w18, hw⟩ : ∃ w', (w17.setCell ⟨b19, 0, none⟩ (.bool s_d)).setCell ⟨b19, 1, none⟩ (.slice a_d n_d c_d) = w' := ⟨_, rfl⟩
           have hw2 : st2 w17 (b19) (0) (1) s_d a_d n_d c_d = w18 := hw
           replace Fd := hZ (Bx.put Fd.out Vd.out)
           rw [hw2] at Fd
           replace Vo := hZ (Vo.out.offe hw2 hn9)
           replace Vh := hZ (Vh.out.offe hw2 hn9)
           replace Vg := hZ (Vg.out.offe hw2 hn9)
           replace Vk := hZ (Vk.out.offe hw2 hn9)
           replace Vc := hZ (Vc.out.offe hw2 hn9)
           replace Fc := hZ (Fc.out.offe hw2 hn9 (by omega))
           replace Vd := hZ (Vd.out.offe hw2 hn9)
           replace HJ := hZ (below_off (g := b19) (o1 := 0) (o2 := 1) (s := s_d) (a := a_d) (n := n_d) (c := c_d) HJ.out (by have := HJs.out; omega))
           rw [hw2] at HJ
           clear hw2 hn9
           refine lateL 10 (by kernel_rfl) (by decide) rfl (fun K hK => ?_)
           go_simp
           try rw [hw]
           refine hK.out _ _ ?_
           clear hK K
           try simp only [Act.put, sX1, sX2, sX3]
           clear hw e0 e1 e2 e3
           refine doneL (by kernel_rfl) ?_ _
           clear hHeld
           refine joinQ_normal ⟨_, _, _, _, _, _, _, _, _, by first | rfl | (simp only [sX1, sX2, sX3]; rfl), Fc, Fd, HJ, hZ (by have := HJs.out; omega)⟩
        ·as_aux_lemma =>
         go_simp
         obtain ⟨w13, hw⟩ : ∃ w', w12.alloc (.cells #[.bool false, .slice none 0 0] 58) = w' := ⟨_, rfl⟩
         have hB : Below w12.heap.size w12 w13 := by rw [← hw]; exact (Below.refl _ _).alloc (Nat.le_refl _) _
         obtain ⟨b18, hb⟩ : ∃ b, w12.heap.size = b := ⟨_, rfl⟩
         have Fc' : Hid (Bx w13 b18 0) := hZ (by rw [← hw, ← hb]; exact Bx.new (wint_zero _))
         have hge_b18 : w11.heap.size ≤ b18 := by rw [← hb]; exact HBr.out.size
         replace HBr := hZ (HBr.out.trans (Only.of_below hB))
         replace Vo := hZ (Vo.out.blw hB)
         replace Vh := hZ (Vh.out.blw hB)
         replace Vg := hZ (Vg.out.blw hB)
         replace Vk := hZ (Vk.out.blw hB)
         replace HJ := hZ (HJ.out.trans (hB.mono HJ.out.size))
         clear hB
         have Fc := Fc'
         clear Fc'
         rw [hw]
         try rw [hb]
         clear hw hb
         refine hK.out _ _ HBr.out (fun hHeld => ?_)
         clear hK K
         try simp only [Act.put, sX1, sX2, sX3]
         refine forkL [3, 8] (by kernel_rfl) (by simp) ⟨forkOneL 3 rfl (fun K hK => ?_), forkOneL 8 rfl (fun K hK => ?_), trivial⟩
         ·as_aux_lemma =>
          go_simp
          refine (neg_b (w := w13) Vk.out (Sy.out.div hdv0) (by omega)).mono ?_
          rintro e w14 ⟨s_c, a_c, n_c, c_c, rfl, h_c, hB⟩
          have Vc := hZ h_c
          replace HBr := hZ (HBr.out.trans (Only.of_below hB))
          replace Vo := hZ (Vo.out.blw hB)
          replace Vh := hZ (Vh.out.blw hB)
          replace Vg := hZ (Vg.out.blw hB)
          replace Vk := hZ (Vk.out.blw hB)
          replace Fc := hZ (Fc.out.blw hB)
          replace HJ := hZ (HJ.out.trans (hB.mono HJ.out.size))
          clear hB
          clear h_c
          refine hK.out _ _ HBr.out (fun hHeld => ?_)
          clear hK K
          try simp only [Act.put, sX1, sX2, sX3]
          refine forkL [6, 8] (by kernel_rfl) (by simp) ⟨forkOneL 6 rfl (fun K hK => ?_), forkOneL 8 rfl (fun K hK => ?_), trivial⟩
          ·as_aux_lemma =>
           go_simp
           refine (over_b (w := w14) Vh.out Vg.out Sx.out Sg.out hdv0 (by omega) (by omega)).mono ?_
           rintro e w15 ⟨s_d, a_d, n_d, c_d, rfl, h_d, hB⟩
           have Vd := hZ h_d
           replace HBr := hZ (HBr.out.trans (Only.of_below hB))
           replace Vo := hZ (Vo.out.blw hB)
           replace Vh := hZ (Vh.out.blw hB)
           replace Vg := hZ (Vg.out.blw hB)
           replace Vk := hZ (Vk.out.blw hB)
           replace Fc := hZ (Fc.out.blw hB)
           replace Vc := hZ (Vc.out.blw hB)
           replace HJ := hZ (HJ.out.trans (hB.mono HJ.out.size))
           clear hB
           clear h_d
           refine hK.out _ _ HBr.out (fun hHeld => ?_)
           clear hK K
           try simp only [Act.put, sX1, sX2, sX3]
           refine stepL 8 (by kernel_rfl) rfl (fun K hK => ?_)
           go_simp
           obtain ⟨w16, hw⟩ : ∃ w', w15.alloc (.cells #[.bool false, .slice none 0 0] 58) = w' := ⟨_, rfl⟩
           have hB : Below w15.heap.size w15 w16 := by rw [← hw]; exact (Below.refl _ _).alloc (Nat.le_refl _) _
           obtain ⟨b19, hb⟩ : ∃ b, w15.heap.size = b := ⟨_, rfl⟩
           have Fd' : Hid (Bx w16 b19 0) := hZ (by rw [← hw, ← hb]; exact Bx.new (wint_zero _))
           have hge_b19 : w11.heap.size ≤ b19 := by rw [← hb]; exact HBr.out.size
           have hne_b18_b19 : b18 < b19 := by rw [← hb]; exact Fc.out.lt
           replace HBr := hZ (HBr.out.trans (Only.of_below hB))
           replace Vo := hZ (Vo.out.blw hB)
           replace Vh := hZ (Vh.out.blw hB)
           replace Vg := hZ (Vg.out.blw hB)
           replace Vk := hZ (Vk.out.blw hB)
           replace Fc := hZ (Fc.out.blw hB)
           replace Vc := hZ (Vc.out.blw hB)
           replace Vd := hZ (Vd.out.blw hB)
           replace HJ := hZ (HJ.out.trans (hB.mono HJ.out.size))
           clear hB
           have Fd := Fd'
           clear Fd'
           rw [hw]
           try rw [hb]
           clear hw hb
           refine hK.out _ _ HBr.out (fun hHeld => ?_)
           clear hK K
           try simp only [Act.put, sX1, sX2, sX3]
           obtain ⟨s_9, a_9, n_9, c_9, t_9, -⟩ := Fc.out
           have e0 := t_9.cell0
           have e1 := t_9.cell1
           have e2 := t_9.frozen 0
           have e3 := t_9.frozen 1
           clear t_9
           have hn9 : NoInt w16 (b18) := Fc.out.noInt
           obtain ⟨w17, hw⟩ : ∃ w', (w16.setCell ⟨b18, 0, none⟩ (.bool s_c)).setCell ⟨b18, 1, none⟩ (.slice a_c n_c c_c) = w' := ⟨_, rfl⟩
           have hw2 : st2 w16 (b18) (0) (1) s_c a_c n_c c_c = w17 := hw
           replace Fc := hZ (Bx.put Fc.out Vc.out)
           rw [hw2] at Fc
           replace Vo := hZ (Vo.out.offe hw2 hn9)
           replace Vh := hZ (Vh.out.offe hw2 hn9)
           replace Vg := hZ (Vg.out.offe hw2 hn9)
           replace Vk := hZ (Vk.out.offe hw2 hn9)
           replace Vc := hZ (Vc.out.offe hw2 hn9)
           replace Vd := hZ (Vd.out.offe hw2 hn9)
           replace Fd := hZ (Fd.out.offe hw2 hn9 (by omega))
           replace HJ := hZ (below_off (g := b18) (o1 := 0) (o2 := 1) (s := s_c) (a := a_c) (n := n_c) (c := c_c) HJ.out (by have := HJs.out; omega))
           rw [hw2] at HJ
           clear hw2 hn9
           replace HBr := hZ (HBr.out.off (g := b18) (o1 := 0) (o2 := 1) (s := s_c) (a := a_c) (n := n_c) (c := c_c) (show w11.heap.size ≤ b18 from hge_b18))
           rw [show st2 w16 (b18) 0 1 s_c a_c n_c c_c = w17 from hw] at HBr
           refine stepL 9 (by kernel_rfl) rfl (fun K hK => ?_)
           go_simp
           try rw [hw]
           refine hK.out _ _ HBr.out (fun hHeld => ?_)
           clear hK K
           try simp only [Act.put, sX1, sX2, sX3]
           clear hw e0 e1 e2 e3
           obtain ⟨s_9, a_9, n_9, c_9, t_9, -⟩ := Fd.out
           have e0 := t_9.cell0
           have e1 := t_9.cell1
           have e2 := t_9.frozen 0
           have e3 := t_9.frozen 1
           clear t_9
           have hn9 : NoInt w17 (b19) := Fd.out.noInt
           obtain ⟨w18, hw⟩ : ∃ w', (w17.setCell ⟨b19, 0, none⟩ (.bool s_d)).setCell ⟨b19, 1, none⟩ (.slice a_d n_d c_d) = w' := ⟨_, rfl⟩
           have hw2 : st2 w17 (b19) (0) (1) s_d a_d n_d c_d = w18 := hw
           replace Fd := hZ (Bx.put Fd.out Vd.out)
           rw [hw2] at Fd
           replace Vo := hZ (Vo.out.offe hw2 hn9)
           replace Vh := hZ (Vh.out.offe hw2 hn9)
           replace Vg := hZ (Vg.out.offe hw2 hn9)
           replace Vk := hZ (Vk.out.offe hw2 hn9)
           replace Fc := hZ (Fc.out.offe hw2 hn9 (by omega))
           replace Vc := hZ (Vc.out.offe hw2 hn9)
           replace Vd := hZ (Vd.out.offe hw2 hn9)
           replace HJ := hZ (below_off (g := b19) (o1 := 0) (o2 := 1) (s := s_d) (a := a_d) (n := n_d) (c := c_d) HJ.out (by have := HJs.out; omega))
           rw [hw2] at HJ
           clear hw2 hn9
           refine lateL 10 (by kernel_rfl) (by decide) rfl (fun K hK => ?_)
           go_simp
           try rw [hw]
           refine hK.out _ _ ?_
           clear hK K
           try simp only [Act.put, sX1, sX2, sX3]
           clear hw e0 e1 e2 e3
           refine doneL (by kernel_rfl) ?_ _
           clear hHeld
           refine joinQ_normal ⟨_, _, _, _, _, _, _, _, _, by first | rfl | (simp only [sX1, sX2, sX3]; rfl), Fc, Fd, HJ, hZ (by have := HJs.out; omega)⟩
          ·as_aux_lemma =>
           go_simp
           obtain ⟨w15, hw⟩ : ∃ w', w14.alloc (.cells #[.bool false, .slice none 0 0] 58) = w' := ⟨_, rfl⟩
           have hB : Below w14.heap.size w14 w15 := by rw [← hw]; exact (Below.refl _ _).alloc (Nat.le_refl _) _
           obtain ⟨b19, hb⟩ : ∃ b, w14.heap.size = b := ⟨_, rfl⟩
           have Fd' : Hid (Bx w15 b19 0) := hZ (by rw [← hw, ← hb]; exact Bx.new (wint_zero _))
           have hge_b19 : w11.heap.size ≤ b19 := by rw [← hb]; exact HBr.out.size
           have hne_b18_b19 : b18 < b19 := by rw [← hb]; exact Fc.out.lt
           replace HBr := hZ (HBr.out.trans (Only.of_below hB))
           replace Vo := hZ (Vo.out.blw hB)
           replace Vh := hZ (Vh.out.blw hB)
           replace Vg := hZ (Vg.out.blw hB)
           replace Vk := hZ (Vk.out.blw hB)
           replace Fc := hZ (Fc.out.blw hB)
           replace Vc := hZ (Vc.out.blw hB)
           replace HJ := hZ (HJ.out.trans (hB.mono HJ.out.size))
           clear hB
           have Fd := Fd'
           clear Fd'
           rw [hw]
           try rw [hb]
           clear hw hb
           refine hK.out _ _ HBr.out (fun hHeld => ?_)
           clear hK K
           try simp only [Act.put, sX1, sX2, sX3]
           refine stepL 6 (by kernel_rfl) rfl (fun K hK => ?_)
           go_simp
           refine (over_b (w := w15) Vh.out Vg.out Sx.out Sg.out hdv0 (by omega) (by omega)).mono ?_
           rintro e w16 ⟨s_d, a_d, n_d, c_d, rfl, h_d, hB⟩
           have Vd := hZ h_d
           replace HBr := hZ (HBr.out.trans (Only.of_below hB))
           replace Vo := hZ (Vo.out.blw hB)
           replace Vh := hZ (Vh.out.blw hB)
           replace Vg := hZ (Vg.out.blw hB)
           replace Vk := hZ (Vk.out.blw hB)
           replace Fc := hZ (Fc.out.blw hB)
           replace Vc := hZ (Vc.out.blw hB)
           replace Fd := hZ (Fd.out.blw hB)
           replace HJ := hZ (HJ.out.trans (hB.mono HJ.out.size))
           clear hB
           clear h_d
           refine hK.out _ _ HBr.out (fun hHeld => ?_)
           clear hK K
           try simp only [Act.put, sX1, sX2, sX3]
           obtain ⟨s_9, a_9, n_9, c_9, t_9, -⟩ := Fc.out
           have e0 := t_9.cell0
           have e1 := t_9.cell1
           have e2 := t_9.frozen 0
           have e3 := t_9.frozen 1
           clear t_9
           have hn9 : NoInt w16 (b18) := Fc.out.noInt
           obtain ⟨w17, hw⟩ : ∃ w', (w16.setCell ⟨b18, 0, none⟩ (.bool s_c)).setCell ⟨b18, 1, none⟩ (.slice a_c n_c c_c) = w' := ⟨_, rfl⟩
           have hw2 : st2 w16 (b18) (0) (1) s_c a_c n_c c_c = w17 := hw
           replace Fc := hZ (Bx.put Fc.out Vc.out)
           rw [hw2] at Fc
           replace Vo := hZ (Vo.out.offe hw2 hn9)
           replace Vh := hZ (Vh.out.offe hw2 hn9)
           replace Vg := hZ (Vg.out.offe hw2 hn9)
           replace Vk := hZ (Vk.out.offe hw2 hn9)
           replace Vc := hZ (Vc.out.offe hw2 hn9)
           replace Fd := hZ (Fd.out.offe hw2 hn9 (by omega))
           replace Vd := hZ (Vd.out.offe hw2 hn9)
           replace HJ := hZ (below_off (g := b18) (o1 := 0) (o2 := 1) (s := s_c) (a := a_c) (n := n_c) (c := c_c) HJ.out (by have := HJs.out; omega))
           rw [hw2] at HJ
           clear hw2 hn9
           replace HBr := hZ (HBr.out.off (g := b18) (o1 := 0) (o2 := 1) (s := s_c) (a := a_c) (n := n_c) (c := c_c) (show w11.heap.size ≤ b18 from hge_b18))
           rw [show st2 w16 (b18) 0 1 s_c a_c n_c c_c = w17 from hw] at HBr
           refine stepL 9 (by kernel_rfl) rfl (fun K hK => ?_)
           go_simp
           try rw [hw]
           refine hK.out _ _ HBr.out (fun hHeld => ?_)
           clear hK K
           try simp only [Act.put, sX1, sX2, sX3]
           clear hw e0 e1 e2 e3
           obtain ⟨s_9, a_9, n_9, c_9, t_9, -⟩ := Fd.out
           have e0 := t_9.cell0
           have e1 := t_9.cell1
           have e2 := t_9.frozen 0
           have e3 := t_9.frozen 1
           clear t_9
           have hn9 : NoInt w17 (b19) := Fd.out.noInt
           obtain ⟨w18, hw⟩ : ∃ w', (w17.setCell ⟨b19, 0, none⟩ (.bool s_d)).setCell ⟨b19, 1, none⟩ (.slice a_d n_d c_d) = w' := ⟨_, rfl⟩
           have hw2 : st2 w17 (b19) (0) (1) s_d a_d n_d c_d = w18 := hw
           replace Fd := hZ (Bx.put Fd.out Vd.out)
           rw [hw2] at Fd
           replace Vo := hZ (Vo.out.offe hw2 hn9)
           replace Vh := hZ (Vh.out.offe hw2 hn9)
           replace Vg := hZ (Vg.out.offe hw2 hn9)
           replace Vk := hZ (Vk.out.offe hw2 hn9)
           replace Fc := hZ (Fc.out.offe hw2 hn9 (by omega))
           replace Vc := hZ (Vc.out.offe hw2 hn9)
           replace Vd := hZ (Vd.out.offe hw2 hn9)
           replace HJ := hZ (below_off (g := b19) (o1 := 0) (o2 := 1) (s := s_d) (a := a_d) (n := n_d) (c := c_d) HJ.out (by have := HJs.out; omega))
           rw [hw2] at HJ
           clear hw2 hn9
           refine lateL 10 (by kernel_rfl) (by decide) rfl (fun K hK => ?_)
           go_simp
           try rw [hw]
           refine hK.out _ _ ?_
           clear hK K
           try simp only [Act.put, sX1, sX2, sX3]
           clear hw e0 e1 e2 e3
           refine doneL (by kernel_rfl) ?_ _
           clear hHeld
           refine joinQ_normal ⟨_, _, _, _, _, _, _, _, _, by first | rfl | (simp only [sX1, sX2, sX3]; rfl), Fc, Fd, HJ, hZ (by have := HJs.out; omega)⟩
         ·as_aux_lemma =>
          go_simp
          obtain ⟨w14, hw⟩ : ∃ w', w13.alloc (.cells #[.bool false, .slice none 0 0] 58) = w' := ⟨_, rfl⟩
          have hB : Below w13.heap.size w13 w14 := by rw [← hw]; exact (Below.refl _ _).alloc (Nat.le_refl _) _
          obtain ⟨b19, hb⟩ : ∃ b, w13.heap.size = b := ⟨_, rfl⟩
          have Fd' : Hid (Bx w14 b19 0) := hZ (by rw [← hw, ← hb]; exact Bx.new (wint_zero _))
          have hge_b19 : w11.heap.size ≤ b19 := by rw [← hb]; exact HBr.out.size
          have hne_b18_b19 : b18 < b19 := by rw [← hb]; exact Fc.out.lt
          replace HBr := hZ (HBr.out.trans (Only.of_below hB))
          replace Vo := hZ (Vo.out.blw hB)
          replace Vh := hZ (Vh.out.blw hB)
          replace Vg := hZ (Vg.out.blw hB)
          replace Vk := hZ (Vk.out.blw hB)
          replace Fc := hZ (Fc.out.blw hB)
          replace HJ := hZ (HJ.out.trans (hB.mono HJ.out.size))
          clear hB
          have Fd := Fd'
          clear Fd'
          rw [hw]
          try rw [hb]
          clear hw hb
          refine hK.out _ _ HBr.out (fun hHeld => ?_)
          clear hK K
          try simp only [Act.put, sX1, sX2, sX3]
          refine stepL 3 (by kernel_rfl) rfl (fun K hK => ?_)
          go_simp
          refine (neg_b (w := w14) Vk.out (Sy.out.div hdv0) (by omega)).mono ?_
          rintro e w15 ⟨s_c, a_c, n_c, c_c, rfl, h_c, hB⟩
          have Vc := hZ h_c
          replace HBr := hZ (HBr.out.trans (Only.of_below hB))
          replace Vo := hZ (Vo.out.blw hB)
          replace Vh := hZ (Vh.out.blw hB)
          replace Vg := hZ (Vg.out.blw hB)
          replace Vk := hZ (Vk.out.blw hB)
          replace Fc := hZ (Fc.out.blw hB)
          replace Fd := hZ (Fd.out.blw hB)
          replace HJ := hZ (HJ.out.trans (hB.mono HJ.out.size))
          clear hB
          clear h_c
          refine hK.out _ _ HBr.out (fun hHeld => ?_)
          clear hK K
          try simp only [Act.put, sX1, sX2, sX3]
          refine stepL 6 (by kernel_rfl) rfl (fun K hK => ?_)
          go_simp
          refine (over_b (w := w15) Vh.out Vg.out Sx.out Sg.out hdv0 (by omega) (by omega)).mono ?_
          rintro e w16 ⟨s_d, a_d, n_d, c_d, rfl, h_d, hB⟩
          have Vd := hZ h_d
          replace HBr := hZ (HBr.out.trans (Only.of_below hB))
          replace Vo := hZ (Vo.out.blw hB)
          replace Vh := hZ (Vh.out.blw hB)
          replace Vg := hZ (Vg.out.blw hB)
          replace Vk := hZ (Vk.out.blw hB)
          replace Fc := hZ (Fc.out.blw hB)
          replace Fd := hZ (Fd.out.blw hB)
          replace Vc := hZ (Vc.out.blw hB)
          replace HJ := hZ (HJ.out.trans (hB.mono HJ.out.size))
          clear hB
          clear h_d
          refine hK.out _ _ HBr.out (fun hHeld => ?_)
          clear hK K
          try simp only [Act.put, sX1, sX2, sX3]
          obtain ⟨s_9, a_9, n_9, c_9, t_9, -⟩ := Fc.out
          have e0 := t_9.cell0
          have e1 := t_9.cell1
          have e2 := t_9.frozen 0
          have e3 := t_9.frozen 1
          clear t_9
          have hn9 : NoInt w16 (b18) := Fc.out.noInt
          obtain ⟨w17, hw⟩ : ∃ w', (w16.setCell ⟨b18, 0, none⟩ (.bool s_c)).setCell ⟨b18, 1, none⟩ (.slice a_c n_c c_c) = w' := ⟨_, rfl⟩
          have hw2 : st2 w16 (b18) (0) (1) s_c a_c n_c c_c = w17 := hw
          replace Fc := hZ (Bx.put Fc.out Vc.out)
          rw [hw2] at Fc
          replace Vo := hZ (Vo.out.offe hw2 hn9)
          replace Vh := hZ (Vh.out.offe hw2 hn9)
          replace Vg := hZ (Vg.out.offe hw2 hn9)
          replace Vk := hZ (Vk.out.offe hw2 hn9)
          replace Fd := hZ (Fd.out.offe hw2 hn9 (by omega))
          replace Vc := hZ (Vc.out.offe hw2 hn9)
          replace Vd := hZ (Vd.out.offe hw2 hn9)
          replace HJ := hZ (below_off (g := b18) (o1 := 0) (o2 := 1) (s := s_c) (a := a_c) (n := n_c) (c := c_c) HJ.out (by have := HJs.out; omega))
          rw [hw2] at HJ
          clear hw2 hn9
          replace HBr := hZ (HBr.out.off (g := b18) (o1 := 0) (o2 := 1) (s := s_c) (a := a_c) (n := n_c) (c := c_c) (show w11.heap.size ≤ b18 from hge_b18))
          rw [show st2 w16 (b18) 0 1 s_c a_c n_c c_c = w17 from hw] at HBr
          refine stepL 9 (by kernel_rfl) rfl (fun K hK => ?_)
          go_simp
          try rw [hw]
          refine hK.out _ _ HBr.out (fun hHeld => ?_)
          clear hK K
          try simp only [Act.put, sX1, sX2, sX3]
          clear hw e0 e1 e2 e3
          obtain ⟨s_9, a_9, n_9, c_9, t_9, -⟩ := Fd.out
          have e0 := t_9.cell0
          have e1 := t_9.cell1
          have e2 := t_9.frozen 0
          have e3 := t_9.frozen 1
          clear t_9
          have hn9 : NoInt w17 (b19) := Fd.out.noInt
          obtain ⟨w18, hw⟩ : ∃ w', (w17.setCell ⟨b19, 0, none⟩ (.bool s_d)).setCell ⟨b19, 1, none⟩ (.slice a_d n_d c_d) = w' := ⟨_, rfl⟩
          have hw2 : st2 w17 (b19) (0) (1) s_d a_d n_d c_d = w18 := hw
          replace Fd := hZ (Bx.put Fd.out Vd.out)
          rw [hw2] at Fd
          replace Vo := hZ (Vo.out.offe hw2 hn9)
          replace Vh := hZ (Vh.out.offe hw2 hn9)
          replace Vg := hZ (Vg.out.offe hw2 hn9)
          replace Vk := hZ (Vk.out.offe hw2 hn9)
          replace Fc := hZ (Fc.out.offe hw2 hn9 (by omega))
          replace Vc := hZ (Vc.out.offe hw2 hn9)
          replace Vd := hZ (Vd.out.offe hw2 hn9)
          replace HJ := hZ (below_off (g := b19) (o1 := 0) (o2 := 1) (s := s_d) (a := a_d) (n := n_d) (c := c_d) HJ.out (by have := HJs.out; omega))
          rw [hw2] at HJ
          clear hw2 hn9
          refine lateL 10 (by kernel_rfl) (by decide) rfl (fun K hK => ?_)
          go_simp
          try rw [hw]
          refine hK.out _ _ ?_
          clear hK K
          try simp only [Act.put, sX1, sX2, sX3]
          clear hw e0 e1 e2 e3
          refine doneL (by kernel_rfl) ?_ _
          clear hHeld
          refine joinQ_normal ⟨_, _, _, _, _, _, _, _, _, by first | rfl | (simp only [sX1, sX2, sX3]; rfl), Fc, Fd, HJ, hZ (by have := HJs.out; omega)⟩
        ·as_aux_lemma =>
         go_simp
         obtain ⟨w13, hw⟩ : ∃ w', w12.alloc (.cells #[.bool false, .slice none 0 0] 58) = w' := ⟨_, rfl⟩
         have hB : Below w12.heap.size w12 w13 := by rw [← hw]; exact (Below.refl _ _).alloc (Nat.le_refl _) _
         obtain ⟨b19, hb⟩ : ∃ b, w12.heap.size = b := ⟨_, rfl⟩
         have Fd' : Hid (Bx w13 b19 0) := hZ (by rw [← hw, ← hb]; exact Bx.new (wint_zero _))
         have hge_b19 : w11.heap.size ≤ b19 := by rw [← hb]; exact HBr.out.size
         replace HBr := hZ (HBr.out.trans (Only.of_below hB))
         replace Vo := hZ (Vo.out.blw hB)
         replace Vh := hZ (Vh.out.blw hB)
         replace Vg := hZ (Vg.out.blw hB)
         replace Vk := hZ (Vk.out.blw hB)
         replace HJ := hZ (HJ.out.trans (hB.mono HJ.out.size))
         clear hB
         have Fd := Fd'
         clear Fd'
         rw [hw]
         try rw [hb]
         clear hw hb
         refine hK.out _ _ HBr.out (fun hHeld => ?_)
         clear hK K
         try simp only [Act.put, sX1, sX2, sX3]
         refine forkL [3, 7] (by kernel_rfl) (by simp) ⟨forkOneL 3 rfl (fun K hK => ?_), forkOneL 7 rfl (fun K hK => ?_), trivial⟩
         ·as_aux_lemma =>
          go_simp
          refine (neg_b (w := w13) Vk.out (Sy.out.div hdv0) (by omega)).mono ?_
          rintro e w14 ⟨s_c, a_c, n_c, c_c, rfl, h_c, hB⟩
          have Vc := hZ h_c
          replace HBr := hZ (HBr.out.trans (Only.of_below hB))
          replace Vo := hZ (Vo.out.blw hB)
          replace Vh := hZ (Vh.out.blw hB)
          replace Vg := hZ (Vg.out.blw hB)
          replace Vk := hZ (Vk.out.blw hB)
          replace Fd := hZ (Fd.out.blw hB)
          replace HJ := hZ (HJ.out.trans (hB.mono HJ.out.size))
          clear hB
          clear h_c
          refine hK.out _ _ HBr.out (fun hHeld => ?_)
          clear hK K
          try simp only [Act.put, sX1, sX2, sX3]
          refine forkL [6, 7] (by kernel_rfl) (by simp) ⟨forkOneL 6 rfl (fun K hK => ?_), forkOneL 7 rfl (fun K hK => ?_), trivial⟩
          ·as_aux_lemma =>
           go_simp
           refine (over_b (w := w14) Vh.out Vg.out Sx.out Sg.out hdv0 (by omega) (by omega)).mono ?_
           rintro e w15 ⟨s_d, a_d, n_d, c_d, rfl, h_d, hB⟩
           have Vd := hZ h_d
           replace HBr := hZ (HBr.out.trans (Only.of_below hB))
           replace Vo := hZ (Vo.out.blw hB)
           replace Vh := hZ (Vh.out.blw hB)
           replace Vg := hZ (Vg.out.blw hB)
           replace Vk := hZ (Vk.out.blw hB)
           replace Fd := hZ (Fd.out.blw hB)
           replace Vc := hZ (Vc.out.blw hB)
           replace HJ := hZ (HJ.out.trans (hB.mono HJ.out.size))
           clear hB
           clear h_d
           refine hK.out _ _ HBr.out (fun hHeld => ?_)
           clear hK K
           try simp only [Act.put, sX1, sX2, sX3]
           refine stepL 7 (by kernel_rfl) rfl (fun K hK => ?_)
           go_simp
           obtain ⟨w16, hw⟩ : ∃ w', w15.alloc (.cells #[.bool false, .slice none 0 0] 58) = w' := ⟨_, rfl⟩
           have hB : Below w15.heap.size w15 w16 := by rw [← hw]; exact (Below.refl _ _).alloc (Nat.le_refl _) _
           obtain ⟨b18, hb⟩ : ∃ b, w15.heap.size = b := ⟨_, rfl⟩
           have Fc' : Hid (Bx w16 b18 0) := hZ (by rw [← hw, ← hb]; exact Bx.new (wint_zero _))
           have hge_b18 : w11.heap.size ≤ b18 := by rw [← hb]; exact HBr.out.size
           have hne_b19_b18 : b19 < b18 := by rw [← hb]; exact Fd.out.lt
           replace HBr := hZ (HBr.out.trans (Only.of_below hB))
           replace Vo := hZ (Vo.out.blw hB)
           replace Vh := hZ (Vh.out.blw hB)
           replace Vg := hZ (Vg.out.blw hB)
           replace Vk := hZ (Vk.out.blw hB)
           replace Fd := hZ (Fd.out.blw hB)
           replace Vc := hZ (Vc.out.blw hB)
           replace Vd := hZ (Vd.out.blw hB)
           replace HJ := hZ (HJ.out.trans (hB.mono HJ.out.size))
           clear hB
           have Fc := Fc'
           clear Fc'
           rw [hw]
           try rw [hb]
           clear hw hb
           refine hK.out _ _ HBr.out (fun hHeld => ?_)
           clear hK K
           try simp only [Act.put, sX1, sX2, sX3]
           obtain ⟨s_9, a_9, n_9, c_9, t_9, -⟩ := Fc.out
           have e0 := t_9.cell0
           have e1 := t_9.cell1
           have e2 := t_9.frozen 0
           have e3 := t_9.frozen 1
           clear t_9
           have hn9 : NoInt w16 (b18) := Fc.out.noInt
           obtain ⟨w17, hw⟩ : ∃ w', (w16.setCell ⟨b18, 0, none⟩ (.bool s_c)).setCell ⟨b18, 1, none⟩ (.slice a_c n_c c_c) = w' := ⟨_, rfl⟩
           have hw2 : st2 w16 (b18) (0) (1) s_c a_c n_c c_c = w17 := hw
           replace Fc := hZ (Bx.put Fc.out Vc.out)
           rw [hw2] at Fc
           replace Vo := hZ (Vo.out.offe hw2 hn9)
           replace Vh := hZ (Vh.out.offe hw2 hn9)
           replace Vg := hZ (Vg.out.offe hw2 hn9)
           replace Vk := hZ (Vk.out.offe hw2 hn9)
           replace Fd := hZ (Fd.out.offe hw2 hn9 (by omega))
           replace Vc := hZ (Vc.out.offe hw2 hn9)
           replace Vd := hZ (Vd.out.offe hw2 hn9)
           replace HJ := hZ (below_off (g := b18) (o1 := 0) (o2 := 1) (s := s_c) (a := a_c) (n := n_c) (c := c_c) HJ.out (by have := HJs.out; omega))
           rw [hw2] at HJ
           clear hw2 hn9
           replace HBr := hZ (HBr.out.off (g := b18) (o1 := 0) (o2 := 1) (s := s_c) (a := a_c) (n := n_c) (c := c_c) (show w11.heap.size ≤ b18 from hge_b18))
           rw [show st2 w16 (b18) 0 1 s_c a_c n_c c_c = w17 from hw] at HBr
           refine stepL 9 (by kernel_rfl) rfl (fun K hK => ?_)
           go_simp
           try rw [hw]
           refine hK.out _ _ HBr.out (fun hHeld => ?_)
           clear hK K
           try simp only [Act.put, sX1, sX2, sX3]
           clear hw e0 e1 e2 e3
           obtain ⟨s_9, a_9, n_9, c_9, t_9, -⟩ := Fd.out
           have e0 := t_9.cell0
           have e1 := t_9.cell1
           have e2 := t_9.frozen 0
           have e3 := t_9.frozen 1
           clear t_9
           have hn9 : NoInt w17 (b19) := Fd.out.noInt
           obtain ⟨w18, hw⟩ : ∃ w', (w17.setCell ⟨b19, 0, none⟩ (.bool s_d)).setCell ⟨b19, 1, none⟩ (.slice a_d n_d c_d) = w' := ⟨_, rfl⟩
           have hw2 : st2 w17 (b19) (0) (1) s_d a_d n_d c_d = w18 := hw
           replace Fd := hZ (Bx.put Fd.out Vd.out)
           rw [hw2] at Fd
           replace Vo := hZ (Vo.out.offe hw2 hn9)
           replace Vh := hZ (Vh.out.offe hw2 hn9)
           replace Vg := hZ (Vg.out.offe hw2 hn9)
           replace Vk := hZ (Vk.out.offe hw2 hn9)
           replace Vc := hZ (Vc.out.offe hw2 hn9)
           replace Vd := hZ (Vd.out.offe hw2 hn9)
           replace Fc := hZ (Fc.out.offe hw2 hn9 (by omega))
           replace HJ := hZ (below_off (g := b19) (o1 := 0) (o2 := 1) (s := s_d) (a := a_d) (n := n_d) (c := c_d) HJ.out (by have := HJs.out; omega))
           rw [hw2] at HJ
           clear hw2 hn9
           refine lateL 10 (by kernel_rfl) (by decide) rfl (fun K hK => ?_)
           go_simp
           try rw [hw]
           refine hK.out _ _ ?_
           clear hK K
           try simp only [Act.put, sX1, sX2, sX3]
           clear hw e0 e1 e2 e3
           refine doneL (by kernel_rfl) ?_ _
           clear hHeld
           refine joinQ_normal ⟨_, _, _, _, _, _, _, _, _, by first | rfl | (simp only [sX1, sX2, sX3]; rfl), Fc, Fd, HJ, hZ (by have := HJs.out; omega)⟩
          ·as_aux_lemma =>
           go_simp
           obtain ⟨w15, hw⟩ : ∃ w', w14.alloc (.cells #[.bool false, .slice none 0 0] 58) = w' := ⟨_, rfl⟩
           have hB : Below w14.heap.size w14 w15 := by rw [← hw]; exact (Below.refl _ _).alloc (Nat.le_refl _) _
           obtain ⟨b18, hb⟩ : ∃ b, w14.heap.size = b := ⟨_, rfl⟩
           have Fc' : Hid (Bx w15 b18 0) := hZ (by rw [← hw, ← hb]; exact Bx.new (wint_zero _))
           have hge_b18 : w11.heap.size ≤ b18 := by rw [← hb]; exact HBr.out.size
           have hne_b19_b18 : b19 < b18 := by rw [← hb]; exact Fd.out.lt
           replace HBr := hZ (HBr.out.trans (Only.of_below hB))
           replace Vo := hZ (Vo.out.blw hB)
           replace Vh := hZ (Vh.out.blw hB)
           replace Vg := hZ (Vg.out.blw hB)
           replace Vk := hZ (Vk.out.blw hB)
           replace Fd := hZ (Fd.out.blw hB)
           replace Vc := hZ (Vc.out.blw hB)
           replace HJ := hZ (HJ.out.trans (hB.mono HJ.out.size))
           clear hB
           have Fc := Fc'
           clear Fc'
           rw [hw]
           try rw [hb]
           clear hw hb
           refine hK.out _ _ HBr.out (fun hHeld => ?_)
           clear hK K
           try simp only [Act.put, sX1, sX2, sX3]
           refine stepL 6 (by kernel_rfl) rfl (fun K hK => ?_)
           go_simp
           refine (over_b (w := w15) Vh.out Vg.out Sx.out Sg.out hdv0 (by omega) (by omega)).mono ?_
           rintro e w16 ⟨s_d, a_d, n_d, c_d, rfl, h_d, hB⟩
           have Vd := hZ h_d
           replace HBr := hZ (HBr.out.trans (Only.of_below hB))
           replace Vo := hZ (Vo.out.blw hB)
           replace Vh := hZ (Vh.out.blw hB)
           replace Vg := hZ (Vg.out.blw hB)
           replace Vk := hZ (Vk.out.blw hB)
           replace Fd := hZ (Fd.out.blw hB)
           replace Vc := hZ (Vc.out.blw hB)
           replace Fc := hZ (Fc.out.blw hB)
           replace HJ := hZ (HJ.out.trans (hB.mono HJ.out.size))
           clear hB
           clear h_d
           refine hK.out _ _ HBr.out (fun hHeld => ?_)
           clear hK K
           try simp only [Act.put, sX1, sX2, sX3]
           obtain ⟨s_9, a_9, n_9, c_9, t_9, -⟩ := Fc.out
           have e0 := t_9.cell0
           have e1 := t_9.cell1
           have e2 := t_9.frozen 0
           have e3 := t_9.frozen 1
           clear t_9
           have hn9 : NoInt w16 (b18) := Fc.out.noInt
           obtain ⟨w17, hw⟩ : ∃ w', (w16.setCell ⟨b18, 0, none⟩ (.bool s_c)).setCell ⟨b18, 1, none⟩ (.slice a_c n_c c_c) = w' := ⟨_, rfl⟩
           have hw2 : st2 w16 (b18) (0) (1) s_c a_c n_c c_c = w17 := hw
           replace Fc := hZ (Bx.put Fc.out Vc.out)
           rw [hw2] at Fc
           replace Vo := hZ (Vo.out.offe hw2 hn9)
           replace Vh := hZ (Vh.out.offe hw2 hn9)
           replace Vg := hZ (Vg.out.offe hw2 hn9)
           replace Vk := hZ (Vk.out.offe hw2 hn9)
           replace Fd := hZ (Fd.out.offe hw2 hn9 (by omega))
           replace Vc := hZ (Vc.out.offe hw2 hn9)
           replace Vd := hZ (Vd.out.offe hw2 hn9)
           replace HJ := hZ (below_off (g := b18) (o1 := 0) (o2 := 1) (s := s_c) (a := a_c) (n := n_c) (c := c_c) HJ.out (by have := HJs.out; omega))
           rw [hw2] at HJ
           clear hw2 hn9
           replace HBr := hZ (HBr.out.off (g := b18) (o1 := 0) (o2 := 1) (s := s_c) (a := a_c) (n := n_c) (c := c_c) (show w11.heap.size ≤ b18 from hge_b18))
           rw [show st2 w16 (b18) 0 1 s_c a_c n_c c_c = w17 from hw] at HBr
           refine stepL 9 (by kernel_rfl) rfl (fun K hK => ?_)
           go_simp
           try rw [hw]
           refine hK.out _ _ HBr.out (fun hHeld => ?_)
           clear hK K
           try simp only [Act.put, sX1, sX2, sX3]
           clear hw e0 e1 e2 e3
           obtain ⟨s_9, a_9, n_9, c_9, t_9, -⟩ := Fd.out
           have e0 := t_9.cell0
           have e1 := t_9.cell1
           have e2 := t_9.frozen 0
           have e3 := t_9.frozen 1
           clear t_9
           have hn9 : NoInt w17 (b19) := Fd.out.noInt
           obtain ⟨w18, hw⟩ : ∃ w', (w17.setCell ⟨b19, 0, none⟩ (.bool s_d)).setCell ⟨b19, 1, none⟩ (.slice a_d n_d c_d) = w' := ⟨_, rfl⟩
           have hw2 : st2 w17 (b19) (0) (1) s_d a_d n_d c_d = w18 := hw
           replace Fd := hZ (Bx.put Fd.out Vd.out)
           rw [hw2] at Fd
           replace Vo := hZ (Vo.out.offe hw2 hn9)
           replace Vh := hZ (Vh.out.offe hw2 hn9)
           replace Vg := hZ (Vg.out.offe hw2 hn9)
           replace Vk := hZ (Vk.out.offe hw2 hn9)
           replace Vc := hZ (Vc.out.offe hw2 hn9)
           replace Fc := hZ (Fc.out.offe hw2 hn9 (by omega))
           replace Vd := hZ (Vd.out.offe hw2 hn9)
           replace HJ := hZ (below_off (g := b19) (o1 := 0) (o2 := 1) (s := s_d) (a := a_d) (n := n_d) (c := c_d) HJ.out (by have := HJs.out; omega))
           rw [hw2] at HJ
           clear hw2 hn9
           refine lateL 10 (by kernel_rfl) (by decide) rfl (fun K hK => ?_)
           go_simp
           try rw [hw]
           refine hK.out _ _ ?_
           clear hK K
           try simp only [Act.put, sX1, sX2, sX3]
           clear hw e0 e1 e2 e3
           refine doneL (by kernel_rfl) ?_ _
           clear hHeld
           refine joinQ_normal ⟨_, _, _, _, _, _, _, _, _, by first | rfl | (simp only [sX1, sX2, sX3]; rfl), Fc, Fd, HJ, hZ (by have := HJs.out; omega)⟩
         ·as_aux_lemma =>
          go_simp
          obtain ⟨w14, hw⟩ : ∃ w', w13.alloc (.cells #[.bool false, .slice none 0 0] 58) = w' := ⟨_, rfl⟩
          have hB : Below w13.heap.size w13 w14 := by rw [← hw]; exact (Below.refl _ _).alloc (Nat.le_refl _) _
          obtain ⟨b18, hb⟩ : ∃ b, w13.heap.size = b := ⟨_, rfl⟩
          have Fc' : Hid (Bx w14 b18 0) := hZ (by rw [← hw, ← hb]; exact Bx.new (wint_zero _))
          have hge_b18 : w11.heap.size ≤ b18 := by rw [← hb]; exact HBr.out.size
          have hne_b19_b18 : b19 < b18 := by rw [← hb]; exact Fd.out.lt
          replace HBr := hZ (HBr.out.trans (Only.of_below hB))
          replace Vo := hZ (Vo.out.blw hB)
          replace Vh := hZ (Vh.out.blw hB)
          replace Vg := hZ (Vg.out.blw hB)
          replace Vk := hZ (Vk.out.blw hB)
          replace Fd := hZ (Fd.out.blw hB)
          replace HJ := hZ (HJ.out.trans (hB.mono HJ.out.size))
          clear hB
          have Fc := Fc'
          clear Fc'
          rw [hw]
          try rw [hb]
          clear hw hb
          refine hK.out _ _ HBr.out (fun hHeld => ?_)
          clear hK K
          try simp only [Act.put, sX1, sX2, sX3]
          refine stepL 3 (by kernel_rfl) rfl (fun K hK => ?_)
          go_simp
          refine (neg_b (w := w14) Vk.out (Sy.out.div hdv0) (by omega)).mono ?_
          rintro e w15 ⟨s_c, a_c, n_c, c_c, rfl, h_c, hB⟩
          have Vc := hZ h_c
          replace HBr := hZ (HBr.out.trans (Only.of_below hB))
          replace Vo := hZ (Vo.out.blw hB)
          replace Vh := hZ (Vh.out.blw hB)
          replace Vg := hZ (Vg.out.blw hB)
          replace Vk := hZ (Vk.out.blw hB)
          replace Fd := hZ (Fd.out.blw hB)
          replace Fc := hZ (Fc.out.blw hB)
          replace HJ := hZ (HJ.out.trans (hB.mono HJ.out.size))
          clear hB
          clear h_c
          refine hK.out _ _ HBr.out (fun hHeld => ?_)
          clear hK K
          try simp only [Act.put, sX1, sX2, sX3]
          refine stepL 6 (by kernel_rfl) rfl (fun K hK => ?_)
          go_simp
          refine (over_b (w := w15) Vh.out Vg.out Sx.out Sg.out hdv0 (by omega) (by omega)).mono ?_
          rintro e w16 ⟨s_d, a_d, n_d, c_d, rfl, h_d, hB⟩
          have Vd := hZ h_d
          replace HBr := hZ (HBr.out.trans (Only.of_below hB))
          replace Vo := hZ (Vo.out.blw hB)
          replace Vh := hZ (Vh.out.blw hB)
          replace Vg := hZ (Vg.out.blw hB)
          replace Vk := hZ (Vk.out.blw hB)
          replace Fd := hZ (Fd.out.blw hB)
          replace Fc := hZ (Fc.out.blw hB)
          replace Vc := hZ (Vc.out.blw hB)
          replace HJ := hZ (HJ.out.trans (hB.mono HJ.out.size))
          clear hB
          clear h_d
          refine hK.out _ _ HBr.out (fun hHeld => ?_)
          clear hK K
          try simp only [Act.put, sX1, sX2, sX3]
          obtain ⟨s_9, a_9, n_9, c_9, t_9, -⟩ := Fc.out
          have e0 := t_9.cell0
          have e1 := t_9.cell1
          have e2 := t_9.frozen 0
          have e3 := t_9.frozen 1
          clear t_9
          have hn9 : NoInt w16 (b18) := Fc.out.noInt
          obtain ⟨w17, hw⟩ : ∃ w', (w16.setCell ⟨b18, 0, none⟩ (.bool s_c)).setCell ⟨b18, 1, none⟩ (.slice a_c n_c c_c) = w' := ⟨_, rfl⟩
          have hw2 : st2 w16 (b18) (0) (1) s_c a_c n_c c_c = w17 := hw
          replace Fc := hZ (Bx.put Fc.out Vc.out)
          rw [hw2] at Fc
          replace Vo := hZ (Vo.out.offe hw2 hn9)
          replace Vh := hZ (Vh.out.offe hw2 hn9)
          replace Vg := hZ (Vg.out.offe hw2 hn9)
          replace Vk := hZ (Vk.out.offe hw2 hn9)
          replace Fd := hZ (Fd.out.offe hw2 hn9 (by omega))
          replace Vc := hZ (Vc.out.offe hw2 hn9)
          replace Vd := hZ (Vd.out.offe hw2 hn9)
          replace HJ := hZ (below_off (g := b18) (o1 := 0) (o2 := 1) (s := s_c) (a := a_c) (n := n_c) (c := c_c) HJ.out (by have := HJs.out; omega))
          rw [hw2] at HJ
          clear hw2 hn9
          replace HBr := hZ (HBr.out.off (g := b18) (o1 := 0) (o2 := 1) (s := s_c) (a := a_c) (n := n_c) (c := c_c) (show w11.heap.size ≤ b18 from hge_b18))
          rw [show st2 w16 (b18) 0 1 s_c a_c n_c c_c = w17 from hw] at HBr
          refine stepL 9 (by kernel_rfl) rfl (fun K hK => ?_)
          go_simp
          try rw [hw]
          refine hK.out _ _ HBr.out (fun hHeld => ?_)
          clear hK K
          try simp only [Act.put, sX1, sX2, sX3]
          clear hw e0 e1 e2 e3
          obtain ⟨s_9, a_9, n_9, c_9, t_9, -⟩ := Fd.out
          have e0 := t_9.cell0
          have e1 := t_9.cell1
          have e2 := t_9.frozen 0
          have e3 := t_9.frozen 1
          clear t_9
          have hn9 : NoInt w17 (b19) := Fd.out.noInt
          obtain ⟨w18, hw⟩ : ∃ w', (w17.setCell ⟨b19, 0, none⟩ (.bool s_d)).setCell ⟨b19, 1, none⟩ (.slice a_d n_d c_d) = w' := ⟨_, rfl⟩
          have hw2 : st2 w17 (b19) (0) (1) s_d a_d n_d c_d = w18 := hw
          replace Fd := hZ (Bx.put Fd.out Vd.out)
          rw [hw2] at Fd
          replace Vo := hZ (Vo.out.offe hw2 hn9)
          replace Vh := hZ (Vh.out.offe hw2 hn9)
          replace Vg := hZ (Vg.out.offe hw2 hn9)
          replace Vk := hZ (Vk.out.offe hw2 hn9)
          replace Fc := hZ (Fc.out.offe hw2 hn9 (by omega))
          replace Vc := hZ (Vc.out.offe hw2 hn9)
          replace Vd := hZ (Vd.out.offe hw2 hn9)
          replace HJ := hZ (below_off (g := b19) (o1 := 0) (o2 := 1) (s := s_d) (a := a_d) (n := n_d) (c := c_d) HJ.out (by have := HJs.out; omega))
          rw [hw2] at HJ
          clear hw2 hn9
          refine lateL 10 (by kernel_rfl) (by decide) rfl (fun K hK => ?_)
          go_simp
          try rw [hw]
          refine hK.out _ _ ?_
          clear hK K
          try simp only [Act.put, sX1, sX2, sX3]
          clear hw e0 e1 e2 e3
          refine doneL (by kernel_rfl) ?_ _
          clear hHeld
          refine joinQ_normal ⟨_, _, _, _, _, _, _, _, _, by first | rfl | (simp only [sX1, sX2, sX3]; rfl), Fc, Fd, HJ, hZ (by have := HJs.out; omega)⟩
       ·as_aux_lemma =>
        go_simp
        obtain ⟨w12, hw⟩ : ∃ w', w11.alloc (.cells #[.bool false, .slice none 0 0] 58) = w' := ⟨_, rfl⟩
        have hB : Below w11.heap.size w11 w12 := by rw [← hw]; exact (Below.refl _ _).alloc (Nat.le_refl _) _
        obtain ⟨b18, hb⟩ : ∃ b, w11.heap.size = b := ⟨_, rfl⟩
        have Fc' : Hid (Bx w12 b18 0) := hZ (by rw [← hw, ← hb]; exact Bx.new (wint_zero _))
        have hge_b18 : w11.heap.size ≤ b18 := by rw [← hb]; exact HBr.out.size
        replace HBr := hZ (HBr.out.trans (Only.of_below hB))
        replace Vo := hZ (Vo.out.blw hB)
        replace Vh := hZ (Vh.out.blw hB)
        replace Vg := hZ (Vg.out.blw hB)
        replace HJ := hZ (HJ.out.trans (hB.mono HJ.out.size))
        clear hB
        have Fc := Fc'
        clear Fc'
        rw [hw]
        try rw [hb]
        clear hw hb
        refine hK.out _ _ HBr.out (fun hHeld => ?_)
        clear hK K
        try simp only [Act.put, sX1, sX2, sX3]
        refine forkL [2, 8] (by kernel_rfl) (by simp) ⟨forkOneL 2 rfl (fun K hK => ?_), forkOneL 8 rfl (fun K hK => ?_), trivial⟩
        ·as_aux_lemma =>
         go_simp
         refine (over_b (w := w12) Vo.out Vg.out Sy.out Sg.out hdv0 (by omega) (by omega)).mono ?_
         rintro e w13 ⟨s_k, a_k, n_k, c_k, rfl, h_k, hB⟩
         have Vk := hZ h_k
         replace HBr := hZ (HBr.out.trans (Only.of_below hB))
         replace Vo := hZ (Vo.out.blw hB)
         replace Vh := hZ (Vh.out.blw hB)
         replace Vg := hZ (Vg.out.blw hB)
         replace Fc := hZ (Fc.out.blw hB)
         replace HJ := hZ (HJ.out.trans (hB.mono HJ.out.size))
         clear hB
         clear h_k
         refine hK.out _ _ HBr.out (fun hHeld => ?_)
         clear hK K
         try simp only [Act.put, sX1, sX2, sX3]
         refine forkL [3, 8] (by kernel_rfl) (by simp) ⟨forkOneL 3 rfl (fun K hK => ?_), forkOneL 8 rfl (fun K hK => ?_), trivial⟩
         ·as_aux_lemma =>
          go_simp
          refine (neg_b (w := w13) Vk.out (Sy.out.div hdv0) (by omega)).mono ?_
          rintro e w14 ⟨s_c, a_c, n_c, c_c, rfl, h_c, hB⟩
          have Vc := hZ h_c
          replace HBr := hZ (HBr.out.trans (Only.of_below hB))
          replace Vo := hZ (Vo.out.blw hB)
          replace Vh := hZ (Vh.out.blw hB)
          replace Vg := hZ (Vg.out.blw hB)
          replace Fc := hZ (Fc.out.blw hB)
          replace Vk := hZ (Vk.out.blw hB)
          replace HJ := hZ (HJ.out.trans (hB.mono HJ.out.size))
          clear hB
          clear h_c
          refine hK.out _ _ HBr.out (fun hHeld => ?_)
          clear hK K
          try simp only [Act.put, sX1, sX2, sX3]
          refine forkL [6, 8] (by kernel_rfl) (by simp) ⟨forkOneL 6 rfl (fun K hK => ?_), forkOneL 8 rfl (fun K hK => ?_), trivial⟩
          ·as_aux_lemma =>
           go_simp
           refine (over_b (w := w14) Vh.out Vg.out Sx.out Sg.out hdv0 (by omega) (by omega)).mono ?_
           rintro e w15 ⟨s_d, a_d, n_d, c_d, rfl, h_d, hB⟩
           have Vd := hZ h_d
           replace HBr := hZ (HBr.out.trans (Only.of_below hB))
           replace Vo := hZ (Vo.out.blw hB)
           replace Vh := hZ (Vh.out.blw hB)
           replace Vg := hZ (Vg.out.blw hB)
           replace Fc := hZ (Fc.out.blw hB)
           replace Vk := hZ (Vk.out.blw hB)
           replace Vc := hZ (Vc.out.blw hB)
           replace HJ := hZ (HJ.out.trans (hB.mono HJ.out.size))
           clear hB
           clear h_d
           refine hK.out _ _ HBr.out (fun hHeld => ?_)
           clear hK K
           try simp only [Act.put, sX1, sX2, sX3]
           refine stepL 8 (by kernel_rfl) rfl (fun K hK => ?_)
           go_simp
           obtain ⟨w16, hw⟩ : ∃ w', w15.alloc (.cells #[.bool false, .slice none 0 0] 58) = w' := ⟨_, rfl⟩
           have hB : Below w15.heap.size w15 w16 := by rw [← hw]; exact (Below.refl _ _).alloc (Nat.le_refl _) _
           obtain ⟨b19, hb⟩ : ∃ b, w15.heap.size = b := ⟨_, rfl⟩
           have Fd' : Hid (Bx w16 b19 0) := hZ (by rw [← hw, ← hb]; exact Bx.new (wint_zero _))
           have hge_b19 : w11.heap.size ≤ b19 := by rw [← hb]; exact HBr.out.size
           have hne_b18_b19 : b18 < b19 := by rw [← hb]; exact Fc.out.lt
           replace HBr := hZ (HBr.out.trans (Only.of_below hB))
           replace Vo := hZ (Vo.out.blw hB)
           replace Vh := hZ (Vh.out.blw hB)
           replace Vg := hZ (Vg.out.blw hB)
           replace Fc := hZ (Fc.out.blw hB)
           replace Vk := hZ (Vk.out.blw hB)
           replace Vc := hZ (Vc.out.blw hB)
           replace Vd := hZ (Vd.out.blw hB)
           replace HJ := hZ (HJ.out.trans (hB.mono HJ.out.size))
           clear hB
           have Fd := Fd'
           clear Fd'
           rw [hw]
           try rw [hb]
           clear hw hb
           refine hK.out _ _ HBr.out (fun hHeld => ?_)
           clear hK K
           try simp only [Act.put, sX1, sX2, sX3]
           obtain ⟨s_9, a_9, n_9, c_9, t_9, -⟩ := Fc.out
           have e0 := t_9.cell0
           have e1 := t_9.cell1
           have e2 := t_9.frozen 0
           have e3 := t_9.frozen 1
           clear t_9
           have hn9 : NoInt w16 (b18) := Fc.out.noInt
           obtain ⟨w17, hw⟩ : ∃ w', (w16.setCell ⟨b18, 0, none⟩ (.bool s_c)).setCell ⟨b18, 1, none⟩ (.slice a_c n_c c_c) = w' := ⟨_, rfl⟩
           have hw2 : st2 w16 (b18) (0) (1) s_c a_c n_c c_c = w17 := hw
           replace Fc := hZ (Bx.put Fc.out Vc.out)
           rw [hw2] at Fc
           replace Vo := hZ (Vo.out.offe hw2 hn9)
           replace Vh := hZ (Vh.out.offe hw2 hn9)
           replace Vg := hZ (Vg.out.offe hw2 hn9)
           replace Vk := hZ (Vk.out.offe hw2 hn9)
           replace Vc := hZ (Vc.out.offe hw2 hn9)
           replace Vd := hZ (Vd.out.offe hw2 hn9)
           replace Fd := hZ (Fd.out.offe hw2 hn9 (by omega))
           replace HJ := hZ (below_off (g := b18) (o1 := 0) (o2 := 1) (s := s_c) (a := a_c) (n := n_c) (c := c_c) HJ.out (by have := HJs.out; omega))
           rw [hw2] at HJ
           clear hw2 hn9
           replace HBr := hZ (HBr.out.off (g := b18) (o1 := 0) (o2 := 1) (s := s_c) (a := a_c) (n := n_c) (c := c_c) (show w11.heap.size ≤ b18 from hge_b18))
           rw [show st2 w16 (b18) 0 1 s_c a_c n_c c_c = w17 from hw] at HBr
           refine stepL 9 (by kernel_rfl) rfl (fun K hK => ?_)
           go_simp
           try rw [hw]
           refine hK.out _ _ HBr.out (fun hHeld => ?_)
           clear hK K
           try simp only [Act.put, sX1, sX2, sX3]
           clear hw e0 e1 e2 e3
           obtain ⟨s_9, a_9, n_9, c_9, t_9, -⟩ := Fd.out
           have e0 := t_9.cell0
           have e1 := t_9.cell1
           have e2 := t_9.frozen 0
           have e3 := t_9.frozen 1
           clear t_9
           have hn9 : NoInt w17 (b19) := Fd.out.noInt
           obtain ⟨w18, hw⟩ : ∃ w', (w17.setCell ⟨b19, 0, none⟩ (.bool s_d)).setCell ⟨b19, 1, none⟩ (.slice a_d n_d c_d) = w' := ⟨_, rfl⟩
           have hw2 : st2 w17 (b19) (0) (1) s_d a_d n_d c_d = w18 := hw
           replace Fd := hZ (Bx.put Fd.out Vd.out)
           rw [hw2] at Fd
           replace Vo := hZ (Vo.out.offe hw2 hn9)
           replace Vh := hZ (Vh.out.offe hw2 hn9)
           replace Vg := hZ (Vg.out.offe hw2 hn9)
           replace Fc := hZ (Fc.out.offe hw2 hn9 (by omega))
           replace Vk := hZ (Vk.out.offe hw2 hn9)
           replace Vc := hZ (Vc.out.offe hw2 hn9)
           replace Vd := hZ (Vd.out.offe hw2 hn9)
           replace HJ := hZ (below_off (g := b19) (o1 := 0) (o2 := 1) (s := s_d) (a := a_d) (n := n_d) (c := c_d) HJ.out (by have := HJs.out; omega))
           rw [hw2] at HJ
           clear hw2 hn9
           refine lateL 10 (by kernel_rfl) (by decide) rfl (fun K hK => ?_)
           go_simp
           try rw [hw]
           refine hK.out _ _ ?_
           clear hK K
           try simp only [Act.put, sX1, sX2, sX3]
           clear hw e0 e1 e2 e3
           refine doneL (by kernel_rfl) ?_ _
           clear hHeld
           refine joinQ_normal ⟨_, _, _, _, _, _, _, _, _, by first | rfl | (simp only [sX1, sX2, sX3]; rfl), Fc, Fd, HJ, hZ (by have := HJs.out; omega)⟩
          ·as_aux_lemma =>
           go_simp
           obtain ⟨w15, hw⟩ : ∃ w', w14.alloc (.cells #[.bool false, .slice none 0 0] 58) = w' := ⟨_, rfl⟩
           have hB : Below w14.heap.size w14 w15 := by rw [← hw]; exact (Below.refl _ _).alloc (Nat.le_refl _) _
           obtain ⟨b19, hb⟩ : ∃ b, w14.heap.size = b := ⟨_, rfl⟩
           have Fd' : Hid (Bx w15 b19 0) := hZ (by rw [← hw, ← hb]; exact Bx.new (wint_zero _))
           have hge_b19 : w11.heap.size ≤ b19 := by rw [← hb]; exact HBr.out.size
           have hne_b18_b19 : b18 < b19 := by rw [← hb]; exact Fc.out.lt
           replace HBr := hZ (HBr.out.trans (Only.of_below hB))
           replace Vo := hZ (Vo.out.blw hB)
           replace Vh := hZ (Vh.out.blw hB)
           replace Vg := hZ (Vg.out.blw hB)
           replace Fc := hZ (Fc.out.blw hB)
           replace Vk := hZ (Vk.out.blw hB)
           replace Vc := hZ (Vc.out.blw hB)
           replace HJ := hZ (HJ.out.trans (hB.mono HJ.out.size))
           clear hB
           have Fd := Fd'
           clear Fd'
           rw [hw]
           try rw [hb]
           clear hw hb
           refine hK.out _ _ HBr.out (fun hHeld => ?_)
           clear hK K
           try simp only [Act.put, sX1, sX2, sX3]
           refine stepL 6 (by kernel_rfl) rfl (fun K hK => ?_)
           go_simp
           refine (over_b (w := w15) Vh.out Vg.out Sx.out Sg.out hdv0 (by omega) (by omega)).mono ?_
           rintro e w16 ⟨s_d, a_d, n_d, c_d, rfl, h_d, hB⟩
           have Vd := hZ h_d
           replace HBr := hZ (HBr.out.trans (Only.of_below hB))
           replace Vo := hZ (Vo.out.blw hB)
           replace Vh := hZ (Vh.out.blw hB)
           replace Vg := hZ (Vg.out.blw hB)
           replace Fc := hZ (Fc.out.blw hB)
           replace Vk := hZ (Vk.out.blw hB)
           replace Vc := hZ (Vc.out.blw hB)
           replace Fd := hZ (Fd.out.blw hB)
           replace HJ := hZ (HJ.out.trans (hB.mono HJ.out.size))
           clear hB
           clear h_d
           refine hK.out _ _ HBr.out (fun hHeld => ?_)
           clear hK K
           try simp only [Act.put, sX1, sX2, sX3]
           obtain ⟨s_9, a_9, n_9, c_9, t_9, -⟩ := Fc.out
           have e0 := t_9.cell0
           have e1 := t_9.cell1
           have e2 := t_9.frozen 0
           have e3 := t_9.frozen 1
           clear t_9
           have hn9 : NoInt w16 (b18) := Fc.out.noInt
           obtain ⟨w17, hw⟩ : ∃ w', (w16.setCell ⟨b18, 0, none⟩ (.bool s_c)).setCell ⟨b18, 1, none⟩ (.slice a_c n_c c_c) = w' := ⟨_, rfl⟩
           have hw2 : st2 w16 (b18) (0) (1) s_c a_c n_c c_c = w17 := hw
           replace Fc := hZ (Bx.put Fc.out Vc.out)
           rw [hw2] at Fc
           replace Vo := hZ (Vo.out.offe hw2 hn9)
           replace Vh := hZ (Vh.out.offe hw2 hn9)
           replace Vg := hZ (Vg.out.offe hw2 hn9)
           replace Vk := hZ (Vk.out.offe hw2 hn9)
           replace Vc := hZ (Vc.out.offe hw2 hn9)
           replace Fd := hZ (Fd.out.offe hw2 hn9 (by omega))
           replace Vd := hZ (Vd.out.offe hw2 hn9)
           replace HJ := hZ (below_off (g := b18) (o1 := 0) (o2 := 1) (s := s_c) (a := a_c) (n := n_c) (c := c_c) HJ.out (by have := HJs.out; omega))
           rw [hw2] at HJ
           clear hw2 hn9
           replace HBr := hZ (HBr.out.off (g := b18) (o1 := 0) (o2 := 1) (s := s_c) (a := a_c) (n := n_c) (c := c_c) (show w11.heap.size ≤ b18 from hge_b18))
           rw [show st2 w16 (b18) 0 1 s_c a_c n_c c_c = w17 from hw] at HBr
           refine stepL 9 (by kernel_rfl) rfl (fun K hK => ?_)
           go_simp
           try rw [hw]
           refine hK.out _ _ HBr.out (fun hHeld => ?_)
           clear hK K
           try simp only [Act.put, sX1, sX2, sX3]
           clear hw e0 e1 e2 e3
           obtain ⟨s_9, a_9, n_9, c_9, t_9, -⟩ := Fd.out
           have e0 := t_9.cell0
           have e1 := t_9.cell1
           have e2 := t_9.frozen 0
           have e3 := t_9.frozen 1
           clear t_9
           have hn9 : NoInt w17 (b19) := Fd.out.noInt
           obtain ⟨w18, hw⟩ : ∃ w', (w17.setCell ⟨b19, 0, none⟩ (.bool s_d)).setCell ⟨b19, 1, none⟩ (.slice a_d n_d c_d) = w' := ⟨_, rfl⟩
           have hw2 : st2 w17 (b19) (0) (1) s_d a_d n_d c_d = w18 := hw
           replace Fd := hZ (Bx.put Fd.out Vd.out)
           rw [hw2] at Fd
           replace Vo := hZ (Vo.out.offe hw2 hn9)
           replace Vh := hZ (Vh.out.offe hw2 hn9)
           replace Vg := hZ (Vg.out.offe hw2 hn9)
           replace Fc := hZ (Fc.out.offe hw2 hn9 (by omega))
           replace Vk := hZ (Vk.out.offe hw2 hn9)
           replace Vc := hZ (Vc.out.offe hw2 hn9)
           replace Vd := hZ (Vd.out.offe hw2 hn9)
           replace HJ := hZ (below_off (g := b19) (o1 := 0) (o2 := 1) (s := s_d) (a := a_d) (n := n_d) (c := c_d) HJ.out (by have := HJs.out; omega))
           rw [hw2] at HJ
           clear hw2 hn9
           refine lateL 10 (by kernel_rfl) (by decide) rfl (fun K hK => ?_)
           go_simp
           try rw [hw]
           refine hK.out _ _ ?_
           clear hK K
           try simp only [Act.put, sX1, sX2, sX3]
           clear hw e0 e1 e2 e3
           refine doneL (by kernel_rfl) ?_ _
           clear hHeld
           refine joinQ_normal ⟨_, _, _, _, _, _, _, _, _, by first | rfl | (simp only [sX1, sX2, sX3]; rfl), Fc, Fd, HJ, hZ (by have := HJs.out; omega)⟩
         ·as_aux_lemma =>
          go_simp
          obtain ⟨w14, hw⟩ : ∃ w', w13.alloc (.cells #[.bool false, .slice none 0 0] 58) = w' := ⟨_, rfl⟩
          have hB : Below w13.heap.size w13 w14 := by rw [← hw]; exact (Below.refl _ _).alloc (Nat.le_refl _) _
          obtain ⟨b19, hb⟩ : ∃ b, w13.heap.size = b := ⟨_, rfl⟩
          have Fd' : Hid (Bx w14 b19 0) := hZ (by rw [← hw, ← hb]; exact Bx.new (wint_zero _))
          have hge_b19 : w11.heap.size ≤ b19 := by rw [← hb]; exact HBr.out.size
          have hne_b18_b19 : b18 < b19 := by rw [← hb]; exact Fc.out.lt
          replace HBr := hZ (HBr.out.trans (Only.of_below hB))
          replace Vo := hZ (Vo.out.blw hB)
          replace Vh := hZ (Vh.out.blw hB)
          replace Vg := hZ (Vg.out.blw hB)
          replace Fc := hZ (Fc.out.blw hB)
          replace Vk := hZ (Vk.out.blw hB)
          replace HJ := hZ (HJ.out.trans (hB.mono HJ.out.size))
          clear hB
          have Fd := Fd'
          clear Fd'
          rw [hw]
          try rw [hb]
          clear hw hb
          refine hK.out _ _ HBr.out (fun hHeld => ?_)
          clear hK K
          try simp only [Act.put, sX1, sX2, sX3]
          refine stepL 3 (by kernel_rfl) rfl (fun K hK => ?_)
          go_simp
          refine (neg_b (w := w14) Vk.out (Sy.out.div hdv0) (by omega)).mono ?_
          rintro e w15 ⟨s_c, a_c, n_c, c_c, rfl, h_c, hB⟩
          have Vc := hZ h_c
          replace HBr := hZ (HBr.out.trans (Only.of_below hB))
          replace Vo := hZ (Vo.out.blw hB)
          replace Vh := hZ (Vh.out.blw hB)
          replace Vg := hZ (Vg.out.blw hB)
          replace Fc := hZ (Fc.out.blw hB)
          replace Vk := hZ (Vk.out.blw hB)
          replace Fd := hZ (Fd.out.blw hB)
          replace HJ := hZ (HJ.out.trans (hB.mono HJ.out.size))
          clear hB
          clear h_c
          refine hK.out _ _ HBr.out (fun hHeld => ?_)
          clear hK K
          try simp only [Act.put, sX1, sX2, sX3]
          refine stepL 6 (by kernel_rfl) rfl (fun K hK => ?_)
          go_simp
          refine (over_b (w := w15) Vh.out Vg.out Sx.out Sg.out hdv0 (by omega) (by omega)).mono ?_
          rintro e w16 ⟨s_d, a_d, n_d, c_d, rfl, h_d, hB⟩
          have Vd := hZ h_d
          replace HBr := hZ (HBr.out.trans (Only.of_below hB))
          replace Vo := hZ (Vo.out.blw hB)
          replace Vh := hZ (Vh.out.blw hB)
          replace Vg := hZ (Vg.out.blw hB)
          replace Fc := hZ (Fc.out.blw hB)
          replace Vk := hZ (Vk.out.blw hB)
          replace Fd := hZ (Fd.out.blw hB)
          replace Vc := hZ (Vc.out.blw hB)
          replace HJ := hZ (HJ.out.trans (hB.mono HJ.out.size))
          clear hB
          clear h_d
          refine hK.out _ _ HBr.out (fun hHeld => ?_)
          clear hK K
          try simp only [Act.put, sX1, sX2, sX3]
          obtain ⟨s_9, a_9, n_9, c_9, t_9, -⟩ := Fc.out
          have e0 := t_9.cell0
          have e1 := t_9.cell1
          have e2 := t_9.frozen 0
          have e3 := t_9.frozen 1
          clear t_9
          have hn9 : NoInt w16 (b18) := Fc.out.noInt
          obtain ⟨w17, hw⟩ : ∃ w', (w16.setCell ⟨b18, 0, none⟩ (.bool s_c)).setCell ⟨b18, 1, none⟩ (.slice a_c n_c c_c) = w' := ⟨_, rfl⟩
          have hw2 : st2 w16 (b18) (0) (1) s_c a_c n_c c_c = w17 := hw
          replace Fc := hZ (Bx.put Fc.out Vc.out)
          rw [hw2] at Fc
          replace Vo := hZ (Vo.out.offe hw2 hn9)
          replace Vh := hZ (Vh.out.offe hw2 hn9)
          replace Vg := hZ (Vg.out.offe hw2 hn9)
          replace Vk := hZ (Vk.out.offe hw2 hn9)
          replace Fd := hZ (Fd.out.offe hw2 hn9 (by omega))
          replace Vc := hZ (Vc.out.offe hw2 hn9)
          replace Vd := hZ (Vd.out.offe hw2 hn9)
          replace HJ := hZ (below_off (g := b18) (o1 := 0) (o2 := 1) (s := s_c) (a := a_c) (n := n_c) (c := c_c) HJ.out (by have := HJs.out; omega))
          rw [hw2] at HJ
          clear hw2 hn9
          replace HBr := hZ (HBr.out.off (g := b18) (o1 := 0) (o2 := 1) (s := s_c) (a := a_c) (n := n_c) (c := c_c) (show w11.heap.size ≤ b18 from hge_b18))
          rw [show st2 w16 (b18) 0 1 s_c a_c n_c c_c = w17 from hw] at HBr
          refine stepL 9 (by kernel_rfl) rfl (fun K hK => ?_)
          go_simp
          try rw [hw]
          refine hK.out _ _ HBr.out (fun hHeld => ?_)
          clear hK K
          try simp only [Act.put, sX1, sX2, sX3]
          clear hw e0 e1 e2 e3
          obtain ⟨s_9, a_9, n_9, c_9, t_9, -⟩ := Fd.out
          have e0 := t_9.cell0
          have e1 := t_9.cell1
          have e2 := t_9.frozen 0
          have e3 := t_9.frozen 1
          clear t_9
          have hn9 : NoInt w17 (b19) := Fd.out.noInt
          obtain ⟨w18, hw⟩ : ∃ w', (w17.setCell ⟨b19, 0, none⟩ (.bool s_d)).setCell ⟨b19, 1, none⟩ (.slice a_d n_d c_d) = w' := ⟨_, rfl⟩
          have hw2 : st2 w17 (b19) (0) (1) s_d a_d n_d c_d = w18 := hw
          replace Fd := hZ (Bx.put Fd.out Vd.out)
          rw [hw2] at Fd
          replace Vo := hZ (Vo.out.offe hw2 hn9)
          replace Vh := hZ (Vh.out.offe hw2 hn9)
          replace Vg := hZ (Vg.out.offe hw2 hn9)
          replace Fc := hZ (Fc.out.offe hw2 hn9 (by omega))
          replace Vk := hZ (Vk.out.offe hw2 hn9)
          replace Vc := hZ (Vc.out.offe hw2 hn9)
          replace Vd := hZ (Vd.out.offe hw2 hn9)
          replace HJ := hZ (below_off (g := b19) (o1 := 0) (o2 := 1) (s := s_d) (a := a_d) (n := n_d) (c := c_d) HJ.out (by have := HJs.out; omega))
          rw [hw2] at HJ
          clear hw2 hn9
          refine lateL 10 (by kernel_rfl) (by decide) rfl (fun K hK => ?_)
          go_simp
          try rw [hw]
          refine hK.out _ _ ?_
          clear hK K
          try simp only [Act.put, sX1, sX2, sX3]
          clear hw e0 e1 e2 e3
          refine doneL (by kernel_rfl) ?_ _
          clear hHeld
          refine joinQ_normal ⟨_, _, _, _, _, _, _, _, _, by first | rfl | (simp only [sX1, sX2, sX3]; rfl), Fc, Fd, HJ, hZ (by have := HJs.out; omega)⟩
        ·as_aux_lemma =>
         go_simp
         obtain ⟨w13, hw⟩ : ∃ w', w12.alloc (.cells #[.bool false, .slice none 0 0] 58) = w' := ⟨_, rfl⟩
         have hB : Below w12.heap.size w12 w13 := by rw [← hw]; exact (Below.refl _ _).alloc (Nat.le_refl _) _
         obtain ⟨b19, hb⟩ : ∃ b, w12.heap.size = b := ⟨_, rfl⟩
         have Fd' : Hid (Bx w13 b19 0) := hZ (by rw [← hw, ← hb]; exact Bx.new (wint_zero _))
         have hge_b19 : w11.heap.size ≤ b19 := by rw [← hb]; exact HBr.out.size
         have hne_b18_b19 : b18 < b19 := by rw [← hb]; exact Fc.out.lt
         replace HBr := hZ (HBr.out.trans (Only.of_below hB))
         replace Vo := hZ (Vo.out.blw hB)
         replace Vh := hZ (Vh.out.blw hB)
         replace Vg := hZ (Vg.out.blw hB)
         replace Fc := hZ (Fc.out.blw hB)
         replace HJ := hZ (HJ.out.trans (hB.mono HJ.out.size))
         clear hB
         have Fd := Fd'
         clear Fd'
         rw [hw]
         try rw [hb]
         clear hw hb
         refine hK.out _ _ HBr.out (fun hHeld => ?_)
         clear hK K
         try simp only [Act.put, sX1, sX2, sX3]
         refine stepL 2 (by kernel_rfl) rfl (fun K hK => ?_)
         go_simp
         refine (over_b (w := w13) Vo.out Vg.out Sy.out Sg.out hdv0 (by omega) (by omega)).mono ?_
         rintro e w14 ⟨s_k, a_k, n_k, c_k, rfl, h_k, hB⟩
         have Vk := hZ h_k
         replace HBr := hZ (HBr.out.trans (Only.of_below hB))
         replace Vo := hZ (Vo.out.blw hB)
         replace Vh := hZ (Vh.out.blw hB)
         replace Vg := hZ (Vg.out.blw hB)
         replace Fc := hZ (Fc.out.blw hB)
         replace Fd := hZ (Fd.out.blw hB)
         replace HJ := hZ (HJ.out.trans (hB.mono HJ.out.size))
         clear hB
         clear h_k
         refine hK.out _ _ HBr.out (fun hHeld => ?_)
         clear hK K
         try simp only [Act.put, sX1, sX2, sX3]
         refine stepL 3 (by kernel_rfl) rfl (fun K hK => ?_)
         go_simp
         refine (neg_b (w := w14) Vk.out (Sy.out.div hdv0) (by omega)).mono ?_
         rintro e w15 ⟨s_c, a_c, n_c, c_c, rfl, h_c, hB⟩
         have Vc := hZ h_c
         replace HBr := hZ (HBr.out.trans (Only.of_below hB))
         replace Vo := hZ (Vo.out.blw hB)
         replace Vh := hZ (Vh.out.blw hB)
         replace Vg := hZ (Vg.out.blw hB)
         replace Fc := hZ (Fc.out.blw hB)
         replace Fd := hZ (Fd.out.blw hB)
         replace Vk := hZ (Vk.out.blw hB)
         replace HJ := hZ (HJ.out.trans (hB.mono HJ.out.size))
         clear hB
         clear h_c
         refine hK.out _ _ HBr.out (fun hHeld => ?_)
         clear hK K
         try simp only [Act.put, sX1, sX2, sX3]
         refine stepL 6 (by kernel_rfl) rfl (fun K hK => ?_)
         go_simp
         refine (over_b (w := w15) Vh.out Vg.out Sx.out Sg.out hdv0 (by omega) (by omega)).mono ?_
         rintro e w16 ⟨s_d, a_d, n_d, c_d, rfl, h_d, hB⟩
         have Vd := hZ h_d
         replace HBr := hZ (HBr.out.trans (Only.of_below hB))
         replace Vo := hZ (Vo.out.blw hB)
         replace Vh := hZ (Vh.out.blw hB)
         replace Vg := hZ (Vg.out.blw hB)
         replace Fc := hZ (Fc.out.blw hB)
         replace Fd := hZ (Fd.out.blw hB)
         replace Vk := hZ (Vk.out.blw hB)
         replace Vc := hZ (Vc.out.blw hB)
         replace HJ := hZ (HJ.out.trans (hB.mono HJ.out.size))
         clear hB
         clear h_d
         refine hK.out _ _ HBr.out (fun hHeld => ?_)
         clear hK K
         try simp only [Act.put, sX1, sX2, sX3]
         obtain ⟨s_9, a_9, n_9, c_9, t_9, -⟩ := Fc.out
         have e0 := t_9.cell0
         have e1 := t_9.cell1
         have e2 := t_9.frozen 0
         have e3 := t_9.frozen 1
         clear t_9
         have hn9 : NoInt w16 (b18) := Fc.out.noInt
         obtain ⟨w17, hw⟩ : ∃ w', (w16.setCell ⟨b18, 0, none⟩ (.bool s_c)).setCell ⟨b18, 1, none⟩ (.slice a_c n_c c_c) = w' := ⟨_, rfl⟩
         have hw2 : st2 w16 (b18) (0) (1) s_c a_c n_c c_c = w17 := hw
         replace Fc := hZ (Bx.put Fc.out Vc.out)
         rw [hw2] at Fc
         replace Vo := hZ (Vo.out.offe hw2 hn9)
         replace Vh := hZ (Vh.out.offe hw2 hn9)
         replace Vg := hZ (Vg.out.offe hw2 hn9)
         replace Fd := hZ (Fd.out.offe hw2 hn9 (by omega))
         replace Vk := hZ (Vk.out.offe hw2 hn9)
         replace Vc := hZ (Vc.out.offe hw2 hn9)
         replace Vd := hZ (Vd.out.offe hw2 hn9)
         replace HJ := hZ (below_off (g := b18) (o1 := 0) (o2 := 1) (s := s_c) (a := a_c) (n := n_c) (c := c_c) HJ.out (by have := HJs.out; omega))
         rw [hw2] at HJ
         clear hw2 hn9
         replace HBr := hZ (HBr.out.off (g := b18) (o1 := 0) (o2 := 1) (s := s_c) (a := a_c) (n := n_c) (c := c_c) (show w11.heap.size ≤ b18 from hge_b18))
         rw [show st2 w16 (b18) 0 1 s_c a_c n_c c_c = w17 from hw] at HBr
         refine stepL 9 (by kernel_rfl) rfl (fun K hK => ?_)
         go_simp
         try rw [hw]
         refine hK.out _ _ HBr.out (fun hHeld => ?_)
         clear hK K
         try simp only [Act.put, sX1, sX2, sX3]
         clear hw e0 e1 e2 e3
         obtain ⟨s_9, a_9, n_9, c_9, t_9, -⟩ := Fd.out
         have e0 := t_9.cell0
         have e1 := t_9.cell1
         have e2 := t_9.frozen 0
         have e3 := t_9.frozen 1
         clear t_9
         have hn9 : NoInt w17 (b19) := Fd.out.noInt
         obtain ⟨w18, hw⟩ : ∃ w', (w17.setCell ⟨b19, 0, none⟩ (.bool s_d)).setCell ⟨b19, 1, none⟩ (.slice a_d n_d c_d) = w' := ⟨_, rfl⟩
         have hw2 : st2 w17 (b19) (0) (1) s_d a_d n_d c_d = w18 := hw
         replace Fd := hZ (Bx.put Fd.out Vd.out)
         rw [hw2] at Fd
         replace Vo := hZ (Vo.out.offe hw2 hn9)
         replace Vh := hZ (Vh.out.offe hw2 hn9)
         replace Vg := hZ (Vg.out.offe hw2 hn9)
         replace Fc := hZ (Fc.out.offe hw2 hn9 (by omega))
         replace Vk := hZ (Vk.out.offe hw2 hn9)
         replace Vc := hZ (Vc.out.offe hw2 hn9)
         replace Vd := hZ (Vd.out.offe hw2 hn9)
         replace HJ := hZ (below_off (g := b19) (o1 := 0) (o2 := 1) (s := s_d) (a := a_d) (n := n_d) (c := c_d) HJ.out (by have := HJs.out; omega))
         rw [hw2] at HJ
         clear hw2 hn9
         refine lateL 10 (by kernel_rfl) (by decide) rfl (fun K hK => ?_)
         go_simp
         try rw [hw]
         refine hK.out _ _ ?_
         clear hK K
         try simp only [Act.put, sX1, sX2, sX3]
         clear hw e0 e1 e2 e3
         refine doneL (by kernel_rfl) ?_ _
         clear hHeld
         refine joinQ_normal ⟨_, _, _, _, _, _, _, _, _, by first | rfl | (simp only [sX1, sX2, sX3]; rfl), Fc, Fd, HJ, hZ (by have := HJs.out; omega)⟩
       ·as_aux_lemma =>
        go_simp
        obtain ⟨w12, hw⟩ : ∃ w', w11.alloc (.cells #[.bool false, .slice none 0 0] 58) = w' := ⟨_, rfl⟩
        have hB : Below w11.heap.size w11 w12 := by rw [← hw]; exact (Below.refl _ _).alloc (Nat.le_refl _) _
        obtain ⟨b19, hb⟩ : ∃ b, w11.heap.size = b := ⟨_, rfl⟩
        have Fd' : Hid (Bx w12 b19 0) := hZ (by rw [← hw, ← hb]; exact Bx.new (wint_zero _))
        have hge_b19 : w11.heap.size ≤ b19 := by rw [← hb]; exact HBr.out.size
        replace HBr := hZ (HBr.out.trans (Only.of_below hB))
        replace Vo := hZ (Vo.out.blw hB)
        replace Vh := hZ (Vh.out.blw hB)
        replace Vg := hZ (Vg.out.blw hB)
        replace HJ := hZ (HJ.out.trans (hB.mono HJ.out.size))
        clear hB
        have Fd := Fd'
        clear Fd'
        rw [hw]
        try rw [hb]
        clear hw hb
        refine hK.out _ _ HBr.out (fun hHeld => ?_)
        clear hK K
        try simp only [Act.put, sX1, sX2, sX3]
        refine forkL [2, 7] (by kernel_rfl) (by simp) ⟨forkOneL 2 rfl (fun K hK => ?_), forkOneL 7 rfl (fun K hK => ?_), trivial⟩
        ·as_aux_lemma =>
         go_simp
         refine (over_b (w := w12) Vo.out Vg.out Sy.out Sg.out hdv0 (by omega) (by omega)).mono ?_
         rintro e w13 ⟨s_k, a_k, n_k, c_k, rfl, h_k, hB⟩
         have Vk := hZ h_k
         replace HBr := hZ (HBr.out.trans (Only.of_below hB))
         replace Vo := hZ (Vo.out.blw hB)
         replace Vh := hZ (Vh.out.blw hB)
         replace Vg := hZ (Vg.out.blw hB)
         replace Fd := hZ (Fd.out.blw hB)
         replace HJ := hZ (HJ.out.trans (hB.mono HJ.out.size))
         clear hB
         clear h_k
         refine hK.out _ _ HBr.out (fun hHeld => ?_)
         clear hK K
         try simp only [Act.put, sX1, sX2, sX3]
         refine forkL [3, 7] (by kernel_rfl) (by simp) ⟨forkOneL 3 rfl (fun K hK => ?_), forkOneL 7 rfl (fun K hK => ?_), trivial⟩
         ·as_aux_lemma =>
          go_simp
          refine (neg_b (w := w13) Vk.out (Sy.out.div hdv0) (by omega)).mono ?_
          rintro e w14 ⟨s_c, a_c, n_c, c_c, rfl, h_c, hB⟩
          have Vc := hZ h_c
          replace HBr := hZ (HBr.out.trans (Only.of_below hB))
          replace Vo := hZ (Vo.out.blw hB)
          replace Vh := hZ (Vh.out.blw hB)
          replace Vg := hZ (Vg.out.blw hB)
          replace Fd := hZ (Fd.out.blw hB)
          replace Vk := hZ (Vk.out.blw hB)
          replace HJ := hZ (HJ.out.trans (hB.mono HJ.out.size))
          clear hB
          clear h_c
          refine hK.out _ _ HBr.out (fun hHeld => ?_)
          clear hK K
          try simp only [Act.put, sX1, sX2, sX3]
          refine forkL [6, 7] (by kernel_rfl) (by simp) ⟨forkOneL 6 rfl (fun K hK => ?_), forkOneL 7 rfl (fun K hK => ?_), trivial⟩
          ·as_aux_lemma =>
           go_simp
           refine (over_b (w := w14) Vh.out Vg.out Sx.out Sg.out hdv0 (by omega) (by omega)).mono ?_
           rintro e w15 ⟨s_d, a_d, n_d, c_d, rfl, h_d, hB⟩
           have Vd := hZ h_d
           replace HBr := hZ (HBr.out.trans (Only.of_below hB))
           replace Vo := hZ (Vo.out.blw hB)
           replace Vh := hZ (Vh.out.blw hB)
           replace Vg := hZ (Vg.out.blw hB)
           replace Fd := hZ (Fd.out.blw hB)
           replace Vk := hZ (Vk.out.blw hB)
           replace Vc := hZ (Vc.out.blw hB)
           replace HJ := hZ (HJ.out.trans (hB.mono HJ.out.size))
           clear hB
           clear h_d
           refine hK.out _ _ HBr.out (fun hHeld => ?_)
           clear hK K
           try simp only [Act.put, sX1, sX2, sX3]
           refine stepL 7 (by kernel_rfl) rfl (fun K hK => ?_)
           go_simp
           obtain ⟨w16, hw⟩ : ∃ w', w15.alloc (.cells #[.bool false, .slice none 0 0] 58) = w' := ⟨_, rfl⟩
           have hB : Below w15.heap.size w15 w16 := by rw [← hw]; exact (Below.refl _ _).alloc (Nat.le_refl _) _
           obtain ⟨b18, hb⟩ : ∃ b, w15.heap.size = b := ⟨_, rfl⟩
           have Fc' : Hid (Bx w16 b18 0) := hZ (by rw [← hw, ← hb]; exact Bx.new (wint_zero _))
           have hge_b18 : w11.heap.size ≤ b18 := by rw [← hb]; exact HBr.out.size
           have hne_b19_b18 : b19 < b18 := by rw [← hb]; exact Fd.out.lt
           replace HBr := hZ (HBr.out.trans (Only.of_below hB))
           replace Vo := hZ (Vo.out.blw hB)
           replace Vh := hZ (Vh.out.blw hB)
           replace Vg := hZ (Vg.out.blw hB)
           replace Fd := hZ (Fd.out.blw hB)
           replace Vk := hZ (Vk.out.blw hB)
           replace Vc := hZ (Vc.out.blw hB)
           replace Vd := hZ (Vd.out.blw hB)
           replace HJ := hZ (HJ.out.trans (hB.mono HJ.out.size))
           clear hB
           have Fc := Fc'
           clear Fc'
           rw [hw]
           try rw [hb]
           clear hw hb
           refine hK.out _ _ HBr.out (fun hHeld => ?_)
           clear hK K
           try simp only [Act.put, sX1, sX2, sX3]
           obtain ⟨s_9, a_9, n_9, c_9, t_9, -⟩ := Fc.out
           have e0 := t_9.cell0
           have e1 := t_9.cell1
           have e2 := t_9.frozen 0
           have e3 := t_9.frozen 1
           clear t_9
           have hn9 : NoInt w16 (b18) := Fc.out.noInt
           obtain ⟨w17, hw⟩ : ∃ w', (w16.setCell ⟨b18, 0, none⟩ (.bool s_c)).setCell ⟨b18, 1, none⟩ (.slice a_c n_c c_c) = w' := ⟨_, rfl⟩
           have hw2 : st2 w16 (b18) (0) (1) s_c a_c n_c c_c = w17 := hw
           replace Fc := hZ (Bx.put Fc.out Vc.out)
           rw [hw2] at Fc
           replace Vo := hZ (Vo.out.offe hw2 hn9)
           replace Vh := hZ (Vh.out.offe hw2 hn9)
           replace Vg := hZ (Vg.out.offe hw2 hn9)
           replace Fd := hZ (Fd.out.offe hw2 hn9 (by omega))
           replace Vk := hZ (Vk.out.offe hw2 hn9)
           replace Vc := hZ (Vc.out.offe hw2 hn9)
           replace Vd := hZ (Vd.out.offe hw2 hn9)
           replace HJ := hZ (below_off (g := b18) (o1 := 0) (o2 := 1) (s := s_c) (a := a_c) (n := n_c) (c := c_c) HJ.out (by have := HJs.out; omega))
           rw [hw2] at HJ
           clear hw2 hn9
           replace HBr := hZ (HBr.out.off (g := b18) (o1 := 0) (o2 := 1) (s := s_c) (a := a_c) (n := n_c) (c := c_c) (show w11.heap.size ≤ b18 from hge_b18))
           rw [show st2 w16 (b18) 0 1 s_c a_c n_c c_c = w17 from hw] at HBr
           refine stepL 9 (by kernel_rfl) rfl (fun K hK => ?_)
           go_simp
           try rw [hw]
           refine hK.out _ _ HBr.out (fun hHeld => ?_)
           clear hK K
           try simp only [Act.put, sX1, sX2, sX3]
           clear hw e0 e1 e2 e3
           obtain ⟨s_9, a_9, n_9, c_9, t_9, -⟩ := Fd.out
           have e0 := t_9.cell0
           have e1 := t_9.cell1
           have e2 := t_9.frozen 0
           have e3 := t_9.frozen 1
           clear t_9
           have hn9 : NoInt w17 (b19) := Fd.out.noInt
           obtain ⟨w18, hw⟩ : ∃ w', (w17.setCell ⟨b19, 0, none⟩ (.bool s_d)).setCell ⟨b19, 1, none⟩ (.slice a_d n_d c_d) = w' := ⟨_, rfl⟩
           have hw2 : st2 w17 (b19) (0) (1) s_d a_d n_d c_d = w18 := hw
           replace Fd := hZ (Bx.put Fd.out Vd.out)
           rw [hw2] at Fd
           replace Vo := hZ (Vo.out.offe hw2 hn9)
           replace Vh := hZ (Vh.out.offe hw2 hn9)
           replace Vg := hZ (Vg.out.offe hw2 hn9)
           replace Vk := hZ (Vk.out.offe hw2 hn9)
           replace Vc := hZ (Vc.out.offe hw2 hn9)
           replace Vd := hZ (Vd.out.offe hw2 hn9)
           replace Fc := hZ (Fc.out.offe hw2 hn9 (by omega))
           replace HJ := hZ (below_off (g := b19) (o1 := 0) (o2 := 1) (s := s_d) (a := a_d) (n := n_d) (c := c_d) HJ.out (by have := HJs.out; omega))
           rw [hw2] at HJ
           clear hw2 hn9
           refine lateL 10 (by kernel_rfl) (by decide) rfl (fun K hK => ?_)
           go_simp
           try rw [hw]
           refine hK.out _ _ ?_
           clear hK K
           try simp only [Act.put, sX1, sX2, sX3]
           clear hw e0 e1 e2 e3
           refine doneL (by kernel_rfl) ?_ _
           clear hHeld
           refine joinQ_normal ⟨_, _, _, _, _, _, _, _, _, by first | rfl | (simp only [sX1, sX2, sX3]; rfl), Fc, Fd, HJ, hZ (by have := HJs.out; omega)⟩
          ·as_aux_lemma =>
           go_simp
           obtain ⟨w15, hw⟩ : ∃ w', w14.alloc (.cells #[.bool false, .slice none 0 0] 58) = w' := ⟨_, rfl⟩
           have hB : Below w14.heap.size w14 w15 := by rw [← hw]; exact (Below.refl _ _).alloc (Nat.le_refl _) _
           obtain ⟨b18, hb⟩ : ∃ b, w14.heap.size = b := ⟨_, rfl⟩
           have Fc' : Hid (Bx w15 b18 0) := hZ (by rw [← hw, ← hb]; exact Bx.new (wint_zero _))
           have hge_b18 : w11.heap.size ≤ b18 := by rw [← hb]; exact HBr.out.size
           have hne_b19_b18 : b19 < b18 := by rw [← hb]; exact Fd.out.lt
           replace HBr := hZ (HBr.out.trans (Only.of_below hB))
           replace Vo := hZ (Vo.out.blw hB)
           replace Vh := hZ (Vh.out.blw hB)
           replace Vg := hZ (Vg.out.blw hB)
           replace Fd := hZ (Fd.out.blw hB)
           replace Vk := hZ (Vk.out.blw hB)
           replace Vc := hZ (Vc.out.blw hB)
           replace HJ := hZ (HJ.out.trans (hB.mono HJ.out.size))
           clear hB
           have Fc := Fc'
           clear Fc'
           rw [hw]
           try rw [hb]
           clear hw hb
           refine hK.out _ _ HBr.out (fun hHeld => ?_)
           clear hK K
           try simp only [Act.put, sX1, sX2, sX3]
           refine stepL 6 (by kernel_rfl) rfl (fun K hK => ?_)
           go_simp
           refine (over_b (w := w15) Vh.out Vg.out Sx.out Sg.out hdv0 (by omega) (by omega)).mono ?_
           rintro e w16 ⟨s_d, a_d, n_d, c_d, rfl, h_d, hB⟩
           have Vd := hZ h_d
           replace HBr := hZ (HBr.out.trans (Only.of_below hB))
           replace Vo := hZ (Vo.out.blw hB)
           replace Vh := hZ (Vh.out.blw hB)
           replace Vg := hZ (Vg.out.blw hB)
           replace Fd := hZ (Fd.out.blw hB)
           replace Vk := hZ (Vk.out.blw hB)
           replace Vc := hZ (Vc.out.blw hB)
           replace Fc := hZ (Fc.out.blw hB)
           replace HJ := hZ (HJ.out.trans (hB.mono HJ.out.size))
           clear hB
           clear h_d
           refine hK.out _ _ HBr.out (fun hHeld => ?_)
           clear hK K
           try simp only [Act.put, sX1, sX2, sX3]
           obtain ⟨s_9, a_9, n_9, c_9, t_9, -⟩ := Fc.out
           have e0 := t_9.cell0
           have e1 := t_9.cell1
           have e2 := t_9.frozen 0
           have e3 := t_9.frozen 1
           clear t_9
           have hn9 : NoInt w16 (b18) := Fc.out.noInt
           obtain ⟨w17, hw⟩ : ∃ w', (w16.setCell ⟨b18, 0, none⟩ (.bool s_c)).setCell ⟨b18, 1, none⟩ (.slice a_c n_c c_c) = w' := ⟨_, rfl⟩
           have hw2 : st2 w16 (b18) (0) (1) s_c a_c n_c c_c = w17 := hw
           replace Fc := hZ (Bx.put Fc.out Vc.out)
           rw [hw2] at Fc
           replace Vo := hZ (Vo.out.offe hw2 hn9)
           replace Vh := hZ (Vh.out.offe hw2 hn9)
           replace Vg := hZ (Vg.out.offe hw2 hn9)
           replace Fd := hZ (Fd.out.offe hw2 hn9 (by omega))
           replace Vk := hZ (Vk.out.offe hw2 hn9)
           replace Vc := hZ (Vc.out.offe hw2 hn9)
           replace Vd := hZ (Vd.out.offe hw2 hn9)
           replace HJ := hZ (below_off (g := b18) (o1 := 0) (o2 := 1) (s := s_c) (a := a_c) (n := n_c) (c := c_c) HJ.out (by have := HJs.out; omega))
           rw [hw2] at HJ
           clear hw2 hn9
           replace HBr := hZ (HBr.out.off (g := b18) (o1 := 0) (o2 := 1) (s := s_c) (a := a_c) (n := n_c) (c := c_c) (show w11.heap.size ≤ b18 from hge_b18))
           rw [show st2 w16 (b18) 0 1 s_c a_c n_c c_c = w17 from hw] at HBr
           refine stepL 9 (by kernel_rfl) rfl (fun K hK => ?_)
           go_simp
           try rw [hw]
           refine hK.out _ _ HBr.out (fun hHeld => ?_)
           clear hK K
           try simp only [Act.put, sX1, sX2, sX3]
           clear hw e0 e1 e2 e3
           obtain ⟨s_9, a_9, n_9, c_9, t_9, -⟩ := Fd.out
           have e0 := t_9.cell0
           have e1 := t_9.cell1
           have e2 := t_9.frozen 0
           have e3 := t_9.frozen 1
           clear t_9
           have hn9 : NoInt w17 (b19) := Fd.out.noInt
           obtain ⟨w18, hw⟩ : ∃ w', (w17.setCell ⟨b19, 0, none⟩ (.bool s_d)).setCell ⟨b19, 1, none⟩ (.slice a_d n_d c_d) = w' := ⟨_, rfl⟩
           have hw2 : st2 w17 (b19) (0) (1) s_d a_d n_d c_d = w18 := hw
           replace Fd := hZ (Bx.put Fd.out Vd.out)
           rw [hw2] at Fd
           replace Vo := hZ (Vo.out.offe hw2 hn9)
           replace Vh := hZ (Vh.out.offe hw2 hn9)
           replace Vg := hZ (Vg.out.offe hw2 hn9)
           replace Vk := hZ (Vk.out.offe hw2 hn9)
           replace Vc := hZ (Vc.out.offe hw2 hn9)
           replace Fc := hZ (Fc.out.offe hw2 hn9 (by omega))
           replace Vd := hZ (Vd.out.offe hw2 hn9)
           replace HJ := hZ (below_off (g := b19) (o1 := 0) (o2 := 1) (s := s_d) (a := a_d) (n := n_d) (c := c_d) HJ.out (by have := HJs.out; omega))
           rw [hw2] at HJ
           clear hw2 hn9
           refine lateL 10 (by kernel_rfl) (by decide) rfl (fun K hK => ?_)
           go_simp
           try rw [hw]
           refine hK.out _ _ ?_
           clear hK K
           try simp only [Act.put, sX1, sX2, sX3]
           clear hw e0 e1 e2 e3
           refine doneL (by kernel_rfl) ?_ _
           clear hHeld
           refine joinQ_normal ⟨_, _, _, _, _, _, _, _, _, by first | rfl | (simp only [sX1, sX2, sX3]; rfl), Fc, Fd, HJ, hZ (by have := HJs.out; omega)⟩
         ·as_aux_lemma =>
          go_simp
          obtain ⟨w14, hw⟩ : ∃ w', w13.alloc (.cells #[.bool false, .slice none 0 0] 58) = w' := ⟨_, rfl⟩
          have hB : Below w13.heap.size w13 w14 := by rw [← hw]; exact (Below.refl _ _).alloc (Nat.le_refl _) _
          obtain ⟨b18, hb⟩ : ∃ b, w13.heap.size = b := ⟨_, rfl⟩
          have Fc' : Hid (Bx w14 b18 0) := hZ (by rw [← hw, ← hb]; exact Bx.new (wint_zero _))
          have hge_b18 : w11.heap.size ≤ b18 := by rw [← hb]; exact HBr.out.size
          have hne_b19_b18 : b19 < b18 := by rw [← hb]; exact Fd.out.lt
          replace HBr := hZ (HBr.out.trans (Only.of_below hB))
          replace Vo := hZ (Vo.out.blw hB)
          replace Vh := hZ (Vh.out.blw hB)
          replace Vg := hZ (Vg.out.blw hB)
          replace Fd := hZ (Fd.out.blw hB)
          replace Vk := hZ (Vk.out.blw hB)
          replace HJ := hZ (HJ.out.trans (hB.mono HJ.out.size))
          clear hB
          have Fc := Fc'
          clear Fc'
          rw [hw]
          try rw [hb]
          clear hw hb
          refine hK.out _ _ HBr.out (fun hHeld => ?_)
          clear hK K
          try simp only [Act.put, sX1, sX2, sX3]
          refine stepL 3 (by kernel_rfl) rfl (fun K hK => ?_)
          go_simp
          refine (neg_b (w := w14) Vk.out (Sy.out.div hdv0) (by omega)).mono ?_
          rintro e w15 ⟨s_c, a_c, n_c, c_c, rfl, h_c, hB⟩
          have Vc := hZ h_c
          replace HBr := hZ (HBr.out.trans (Only.of_below hB))
          replace Vo := hZ (Vo.out.blw hB)
          replace Vh := hZ (Vh.out.blw hB)
          replace Vg := hZ (Vg.out.blw hB)
          replace Fd := hZ (Fd.out.blw hB)
          replace Vk := hZ (Vk.out.blw hB)
          replace Fc := hZ (Fc.out.blw hB)
          replace HJ := hZ (HJ.out.trans (hB.mono HJ.out.size))
          clear hB
          clear h_c
          refine hK.out _ _ HBr.out (fun hHeld => ?_)
          clear hK K
          try simp only [Act.put, sX1, sX2, sX3]
          refine stepL 6 (by kernel_rfl) rfl (fun K hK => ?_)
          go_simp
          refine (over_b (w := w15) Vh.out Vg.out Sx.out Sg.out hdv0 (by omega) (by omega)).mono ?_
          rintro e w16 ⟨s_d, a_d, n_d, c_d, rfl, h_d, hB⟩
          have Vd := hZ h_d
          replace HBr := hZ (HBr.out.trans (Only.of_below hB))
          replace Vo := hZ (Vo.out.blw hB)
          replace Vh := hZ (Vh.out.blw hB)
          replace Vg := hZ (Vg.out.blw hB)
          replace Fd := hZ (Fd.out.blw hB)
          replace Vk := hZ (Vk.out.blw hB)
          replace Fc := hZ (Fc.out.blw hB)
          replace Vc := hZ (Vc.out.blw hB)
          replace HJ := hZ (HJ.out.trans (hB.mono HJ.out.size))
          clear hB
          clear h_d
          refine hK.out _ _ HBr.out (fun hHeld => ?_)
          clear hK K
          try simp only [Act.put, sX1, sX2, sX3]
          obtain ⟨s_9, a_9, n_9, c_9, t_9, -⟩ := Fc.out
          have e0 := t_9.cell0
          have e1 := t_9.cell1
          have e2 := t_9.frozen 0
          have e3 := t_9.frozen 1
          clear t_9
          have hn9 : NoInt w16 (b18) := Fc.out.noInt
          obtain ⟨w17, hw⟩ : ∃ w', (w16.setCell ⟨b18, 0, none⟩ (.bool s_c)).setCell ⟨b18, 1, none⟩ (.slice a_c n_c c_c) = w' := ⟨_, rfl⟩
          have hw2 : st2 w16 (b18) (0) (1) s_c a_c n_c c_c = w17 := hw
          replace Fc := hZ (Bx.put Fc.out Vc.out)
          rw [hw2] at Fc
          replace Vo := hZ (Vo.out.offe hw2 hn9)
          replace Vh := hZ (Vh.out.offe hw2 hn9)
          replace Vg := hZ (Vg.out.offe hw2 hn9)
          replace Fd := hZ (Fd.out.offe hw2 hn9 (by omega))
          replace Vk := hZ (Vk.out.offe hw2 hn9)
          replace Vc := hZ (Vc.out.offe hw2 hn9)
          replace Vd := hZ (Vd.out.offe hw2 hn9)
          replace HJ := hZ (below_off (g := b18) (o1 := 0) (o2 := 1) (s := s_c) (a := a_c) (n := n_c) (c := c_c) HJ.out (by have := HJs.out; omega))
          rw [hw2] at HJ
          clear hw2 hn9
          replace HBr := hZ (HBr.out.off (g := b18) (o1 := 0) (o2 := 1) (s := s_c) (a := a_c) (n := n_c) (c := c_c) (show w11.heap.size ≤ b18 from hge_b18))
          rw [show st2 w16 (b18) 0 1 s_c a_c n_c c_c = w17 from hw] at HBr
          refine stepL 9 (by kernel_rfl) rfl (fun K hK => ?_)
          go_simp
          try rw [hw]
          refine hK.out _ _ HBr.out (fun hHeld => ?_)
          clear hK K
          try simp only [Act.put, sX1, sX2, sX3]
          clear hw e0 e1 e2 e3
          obtain ⟨s_9, a_9, n_9, c_9, t_9, -⟩ := Fd.out
          have e0 := t_9.cell0
          have e1 := t_9.cell1
          have e2 := t_9.frozen 0
          have e3 := t_9.frozen 1
          clear t_9
          have hn9 : NoInt w17 (b19) := Fd.out.noInt
          obtain ⟨w18, hw⟩ : ∃ w', (w17.setCell ⟨b19, 0, none⟩ (.bool s_d)).setCell ⟨b19, 1, none⟩ (.slice a_d n_d c_d) = w' := ⟨_, rfl⟩
          have hw2 : st2 w17 (b19) (0) (1) s_d a_d n_d c_d = w18 := hw
          replace Fd := hZ (Bx.put Fd.out Vd.out)
          rw [hw2] at Fd
          replace Vo := hZ (Vo.out.offe hw2 hn9)
          replace Vh := hZ (Vh.out.offe hw2 hn9)
          replace Vg := hZ (Vg.out.offe hw2 hn9)
          replace Vk := hZ (Vk.out.offe hw2 hn9)
          replace Fc := hZ (Fc.out.offe hw2 hn9 (by omega))
          replace Vc := hZ (Vc.out.offe hw2 hn9)
          replace Vd := hZ (Vd.out.offe hw2 hn9)
          replace HJ := hZ (below_off (g := b19) (o1 := 0) (o2 := 1) (s := s_d) (a := a_d) (n := n_d) (c := c_d) HJ.out (by have := HJs.out; omega))
          rw [hw2] at HJ
          clear hw2 hn9
          refine lateL 10 (by kernel_rfl) (by decide) rfl (fun K hK => ?_)
          go_simp
          try rw [hw]
          refine hK.out _ _ ?_
          clear hK K
          try simp only [Act.put, sX1, sX2, sX3]
          clear hw e0 e1 e2 e3
          refine doneL (by kernel_rfl) ?_ _
          clear hHeld
          refine joinQ_normal ⟨_, _, _, _, _, _, _, _, _, by first | rfl | (simp only [sX1, sX2, sX3]; rfl), Fc, Fd, HJ, hZ (by have := HJs.out; omega)⟩
        ·as_aux_lemma =>
         go_simp
         obtain ⟨w13, hw⟩ : ∃ w', w12.alloc (.cells #[.bool false, .slice none 0 0] 58) = w' := ⟨_, rfl⟩
         have hB : Below w12.heap.size w12 w13 := by rw [← hw]; exact (Below.refl _ _).alloc (Nat.le_refl _) _
         obtain ⟨b18, hb⟩ : ∃ b, w12.heap.size = b := ⟨_, rfl⟩
         have Fc' : Hid (Bx w13 b18 0) := hZ (by rw [← hw, ← hb]; exact Bx.new (wint_zero _))
         have hge_b18 : w11.heap.size ≤ b18 := by rw [← hb]; exact HBr.out.size
         have hne_b19_b18 : b19 < b18 := by rw [← hb]; exact Fd.out.lt
         replace HBr := hZ (HBr.out.trans (Only.of_below hB))
         replace Vo := hZ (Vo.out.blw hB)
         replace Vh := hZ (Vh.out.blw hB)
         replace Vg := hZ (Vg.out.blw hB)
         replace Fd := hZ (Fd.out.blw hB)
         replace HJ := hZ (HJ.out.trans (hB.mono HJ.out.size))
         clear hB
         have Fc := Fc'
         clear Fc'
         rw [hw]
         try rw [hb]
         clear hw hb
         refine hK.out _ _ HBr.out (fun hHeld => ?_)
         clear hK K
         try simp only [Act.put, sX1, sX2, sX3]
         refine stepL 2 (by kernel_rfl) rfl (fun K hK => ?_)
         go_simp
         refine (over_b (w := w13) Vo.out Vg.out Sy.out Sg.out hdv0 (by omega) (by omega)).mono ?_
         rintro e w14 ⟨s_k, a_k, n_k, c_k, rfl, h_k, hB⟩
         have Vk := hZ h_k
         replace HBr := hZ (HBr.out.trans (Only.of_below hB))
         replace Vo := hZ (Vo.out.blw hB)
         replace Vh := hZ (Vh.out.blw hB)
         replace Vg := hZ (Vg.out.blw hB)
         replace Fd := hZ (Fd.out.blw hB)
         replace Fc := hZ (Fc.out.blw hB)
         replace HJ := hZ (HJ.out.trans (hB.mono HJ.out.size))
         clear hB
         clear h_k
         refine hK.out _ _ HBr.out (fun hHeld => ?_)
         clear hK K
         try simp only [Act.put, sX1, sX2, sX3]
         refine stepL 3 (by kernel_rfl) rfl (fun K hK => ?_)
         go_simp
         refine (neg_b (w := w14) Vk.out (Sy.out.div hdv0) (by omega)).mono ?_
         rintro e w15 ⟨s_c, a_c, n_c, c_c, rfl, h_c, hB⟩
         have Vc := hZ h_c
         replace HBr := hZ (HBr.out.trans (Only.of_below hB))
         replace Vo := hZ (Vo.out.blw hB)
         replace Vh := hZ (Vh.out.blw hB)
         replace Vg := hZ (Vg.out.blw hB)
         replace Fd := hZ (Fd.out.blw hB)
         replace Fc := hZ (Fc.out.blw hB)
         replace Vk := hZ (Vk.out.blw hB)
         replace HJ := hZ (HJ.out.trans (hB.mono HJ.out.size))
         clear hB
         clear h_c
         refine hK.out _ _ HBr.out (fun hHeld => ?_)
         clear hK K
         try simp only [Act.put, sX1, sX2, sX3]
         refine stepL 6 (by kernel_rfl) rfl (fun K hK => ?_)
         go_simp
         refine (over_b (w := w15) Vh.out Vg.out Sx.out Sg.out hdv0 (by omega) (by omega)).mono ?_
         rintro e w16 ⟨s_d, a_d, n_d, c_d, rfl, h_d, hB⟩
         have Vd := hZ h_d
         replace HBr := hZ (HBr.out.trans (Only.of_below hB))
         replace Vo := hZ (Vo.out.blw hB)
         replace Vh := hZ (Vh.out.blw hB)
         replace Vg := hZ (Vg.out.blw hB)
         replace Fd := hZ (Fd.out.blw hB)
         replace Fc := hZ (Fc.out.blw hB)
         replace Vk := hZ (Vk.out.blw hB)
         replace Vc := hZ (Vc.out.blw hB)
         replace HJ := hZ (HJ.out.trans (hB.mono HJ.out.size))
         clear hB
         clear h_d
         refine hK.out _ _ HBr.out (fun hHeld => ?_)
         clear hK K
         try simp only [Act.put, sX1, sX2, sX3]
         obtain ⟨s_9, a_9, n_9, c_9, t_9, -⟩ := Fc.out
         have e0 := t_9.cell0
         have e1 := t_9.cell1
         have e2 := t_9.frozen 0
         have e3 := t_9.frozen 1
         clear t_9
         have hn9 : NoInt w16 (b18) := Fc.out.noInt
         obtain ⟨w17, hw⟩ : ∃ w', (w16.setCell ⟨b18, 0, none⟩ (.bool s_c)).setCell ⟨b18, 1, none⟩ (.slice a_c n_c c_c) = w' := ⟨_, rfl⟩
         have hw2 : st2 w16 (b18) (0) (1) s_c a_c n_c c_c = w17 := hw
         replace Fc := hZ (Bx.put Fc.out Vc.out)
         rw [hw2] at Fc
         replace Vo := hZ (Vo.out.offe hw2 hn9)
         replace Vh := hZ (Vh.out.offe hw2 hn9)
         replace Vg := hZ (Vg.out.offe hw2 hn9)
         replace Fd := hZ (Fd.out.offe hw2 hn9 (by omega))
         replace Vk := hZ (Vk.out.offe hw2 hn9)
         replace Vc := hZ (Vc.out.offe hw2 hn9)
         replace Vd := hZ (Vd.out.offe hw2 hn9)
         replace HJ := hZ (below_off (g := b18) (o1 := 0) (o2 := 1) (s := s_c) (a := a_c) (n := n_c) (c := c_c) HJ.out (by have := HJs.out; omega))
         rw [hw2] at HJ
         clear hw2 hn9
         replace HBr := hZ (HBr.out.off (g := b18) (o1 := 0) (o2 := 1) (s := s_c) (a := a_c) (n := n_c) (c := c_c) (show w11.heap.size ≤ b18 from hge_b18))
         rw [show st2 w16 (b18) 0 1 s_c a_c n_c c_c = w17 from hw] at HBr
         refine stepL 9 (by kernel_rfl) rfl (fun K hK => ?_)
         go_simp
         try rw [hw]
         refine hK.out _ _ HBr.out (fun hHeld => ?_)
         clear hK K
         try simp only [Act.put, sX1, sX2, sX3]
         clear hw e0 e1 e2 e3
         obtain ⟨s_9, a_9, n_9, c_9, t_9, -⟩ := Fd.out
         have e0 := t_9.cell0
         have e1 := t_9.cell1
         have e2 := t_9.frozen 0
         have e3 := t_9.frozen 1
         clear t_9
         have hn9 : NoInt w17 (b19) := Fd.out.noInt
         obtain ⟨w18, hw⟩ : ∃ w', (w17.setCell ⟨b19, 0, none⟩ (.bool s_d)).setCell ⟨b19, 1, none⟩ (.slice a_d n_d c_d) = w' := ⟨_, rfl⟩
         have hw2 : st2 w17 (b19) (0) (1) s_d a_d n_d c_d = w18 := hw
         replace Fd := hZ (Bx.put Fd.out Vd.out)
         rw [hw2] at Fd
         replace Vo := hZ (Vo.out.offe hw2 hn9)
         replace Vh := hZ (Vh.out.offe hw2 hn9)
         replace Vg := hZ (Vg.out.offe hw2 hn9)
         replace Fc := hZ (Fc.out.offe hw2 hn9 (by omega))
         replace Vk := hZ (Vk.out.offe hw2 hn9)
         replace Vc := hZ (Vc.out.offe hw2 hn9)
         replace Vd := hZ (Vd.out.offe hw2 hn9)
         replace HJ := hZ (below_off (g := b19) (o1 := 0) (o2 := 1) (s := s_d) (a := a_d) (n := n_d) (c := c_d) HJ.out (by have := HJs.out; omega))
         rw [hw2] at HJ
         clear hw2 hn9
         refine lateL 10 (by kernel_rfl) (by decide) rfl (fun K hK => ?_)
         go_simp
         try rw [hw]
         refine hK.out _ _ ?_
         clear hK K
         try simp only [Act.put, sX1, sX2, sX3]
         clear hw e0 e1 e2 e3
         refine doneL (by kernel_rfl) ?_ _
         clear hHeld
         refine joinQ_normal ⟨_, _, _, _, _, _, _, _, _, by first | rfl | (simp only [sX1, sX2, sX3]; rfl), Fc, Fd, HJ, hZ (by have := HJs.out; omega)⟩
      ·as_aux_lemma =>
       rintro a w11 ⟨v94, v95, v96, v97, v98, v99, v100, b18, b19, rfl, Fc, Fd, HJ, Hxy⟩
       simp only [sX1, sX2, sX3]
       have hB := HJ.out
       clear HJ
       replace Ra := hZ (Ra.out.blw hB)
       replace Oa := hZ (Oa.out.blw hB)
       replace Fm := hZ (Fm.out.blw hB)
       replace Oq := hZ (Oq.out.blw hB)
       replace RX := hZ (RX.out.blw hB)
       replace Rr := hZ (Rr.out.blw hB)
       replace Fh := hZ (Fh.out.blw hB)
       replace Fo := hZ (Fo.out.blw hB)
       replace Fg := hZ (Fg.out.blw hB)
       replace Fu := hZ (Fu.out.blw hB)
       replace Fv := hZ (Fv.out.blw hB)
       replace HO := hZ (HO.out.blw hB)
       clear hB
       have Hb18 : Hid (b16 + 1 < b18 ∧ b16 + 1 < b19 ∧ b18 ≠ b19) := hZ (by have := Hxy.out; omega)
       clear Hxy hl17
       have Sc : Hid (Sz 4100 (-(y / dv))) := hZ ((Sy.out.div hdv0).neg.mono (by omega))
       have Sd : Hid (Sz 4100 (x / dv)) := hZ ((Sx.out.div hdv0).mono (by omega))
       have Hyd : Hid (vec as1 j = y ∧ vec row j = x) := hZ ⟨by rw [vec_at Hja.out, Hy.out], by rw [vec_at Hjr.out, Hx.out]⟩
       go_wp2_with fail
       have HC := hZ (CombTo.start (m := m) (u := u) (v := v) (c := -(y / dv)) (d := x / dv) (j := j) Hrl.out Hal.out HBr1.out HI.out.bda)
       go_loopw [20] (fun i wr => ∃ (k : Nat) (row2 as2 : List Int), j + 1 ≤ k ∧ k ≤ n ∧ i = .int .i64 k ∧ Hid (CombTo m u v (-(y / dv)) (x / dv) n j k row as1 row2 as2) ∧ Hid (WRow wr ga as2) ∧ Hid (One wr ba 55 (.slice (some ⟨ga, 0, none⟩) n c2)) ∧ Hid (Bx wr bm m) ∧ Hid (RwX wr R l n sq1 j) ∧ Hid (WRow wr g row2) ∧ Hid (One wr br 55 (.slice (some ⟨g, 0, none⟩) n c1)) ∧ Hid (Bx wr b15 dv) ∧ Hid (Bx wr b16 u) ∧ Hid (Bx wr (b16 + 1) v) ∧ Hid (Bx wr b18 (-(y / dv))) ∧ Hid (Bx wr b19 (x / dv)) ∧ Hid (Only (InsS ga l) w0 wr)) (fun i _ => n - (intOf i).toNat)
       case atStart => exact ⟨j + 1, row, as1, by omega, by omega, by go_num, HC, Ra, Oa, Fm, RX, Rr, Oq, Fg, Fu, Fv, Fc, Fd, HO⟩
       case round =>
        clear HC Ra Oa Fm RX Rr Oq Fg Fu Fv Fc Fd Fh Fo HO
        obtain ⟨k, row2, as2, hjk, hk, rfl, HC, Ra, Oa, Fm, RX, Rr, Oq, Fg, Fu, Fv, Fc, Fd, HO⟩ := hrel
        obtain ⟨w11, rfl⟩ : ∃ w' : World, w' = wr := ⟨_, rfl⟩
        by_cases hkl : k < n
        ·as_aux_lemma =>
         have j1 : (0 : Int) ≤ (k : Int) := by omega
         have j2 : (k : Int) < (n : Int) := by omega
         have Hkr : Hid (k < row2.length) := hZ (by rw [HC.out.lenr]; exact hkl)
         have Hka : Hid (k < as2.length) := hZ (by rw [HC.out.lena]; exact hkl)
         have dor := Oq.out.cell
         obtain ⟨s_p, a_p, n_p, c_p, d0p, d1p, h_p⟩ := Rr.out.get k Hkr.out
         obtain ⟨pz, hpz⟩ : ∃ z, row2[k]'Hkr.out = z := ⟨_, rfl⟩
         rw [hpz] at h_p
         have Vp := hZ h_p
         have Hpz := hZ hpz
         clear h_p hpz
         have Sp : Hid (Sz 4000 pz) := hZ (sz_bd Sm.out (Hpz.out ▸ HC.out.bdr _ (List.getElem_mem _)))
         obtain ⟨qz, hqz⟩ : ∃ z, as2[k]'Hka.out = z := ⟨_, rfl⟩
         have Hqz := hZ hqz
         have Sq2 : Hid (Sz 4000 qz) := hZ (sz_bd Sm.out (hqz ▸ HC.out.bda _ (List.getElem_mem _)))
         clear hqz
         go_wp2_with fail
         clear dor d0p d1p
         by_cases hp0 : pz = 0
         ·as_aux_lemma =>
          refine (sign_b (w := w11) Vp.out Sp.out (by omega)).mono ?_
          rintro e w12 ⟨he, hB⟩
          rw [show cmp3 pz 0 = 0 by rw [hp0]; exact cmp3_eq 0] at he
          subst he
          replace Ra := hZ (Ra.out.blw hB)
          replace Oa := hZ (Oa.out.blw hB)
          replace Fm := hZ (Fm.out.blw hB)
          replace RX := hZ (RX.out.blw hB)
          replace Rr := hZ (Rr.out.blw hB)
          replace Oq := hZ (Oq.out.blw hB)
          replace Fg := hZ (Fg.out.blw hB)
          replace Fu := hZ (Fu.out.blw hB)
          replace Fv := hZ (Fv.out.blw hB)
          replace Fc := hZ (Fc.out.blw hB)
          replace Fd := hZ (Fd.out.blw hB)
          replace Vp := hZ (Vp.out.blw hB)
          replace HO := hZ (HO.out.blw hB)
          clear hB
          clear Vp
          have doa := Oa.out.cell
          obtain ⟨s_k, a_k, n_k, c_k, d0k, d1k, h_k⟩ := Ra.out.get k Hka.out
          rw [Hqz.out] at h_k
          have Vk := hZ h_k
          clear h_k
          go_wp2_with fail
          clear doa d0k d1k
          by_cases hq0 : qz = 0
          ·as_aux_lemma =>
           refine (sign_b (w := w12) Vk.out Sq2.out (by omega)).mono ?_
           rintro e w13 ⟨he, hB⟩
           rw [show cmp3 qz 0 = 0 by rw [hq0]; exact cmp3_eq 0] at he
           subst he
           replace Ra := hZ (Ra.out.blw hB)
           replace Oa := hZ (Oa.out.blw hB)
           replace Fm := hZ (Fm.out.blw hB)
           replace RX := hZ (RX.out.blw hB)
           replace Rr := hZ (Rr.out.blw hB)
           replace Oq := hZ (Oq.out.blw hB)
           replace Fg := hZ (Fg.out.blw hB)
           replace Fu := hZ (Fu.out.blw hB)
           replace Fv := hZ (Fv.out.blw hB)
           replace Fc := hZ (Fc.out.blw hB)
           replace Fd := hZ (Fd.out.blw hB)
           replace Vk := hZ (Vk.out.blw hB)
           replace HO := hZ (HO.out.blw hB)
           clear hB
           go_wp2_with fail
           go_roundw
           case rel => exact ⟨k + 1, row2, as2, by omega, by omega, by go_num, hZ (HC.out.skip (by rw [vec_at Hkr.out, Hpz.out]; exact hp0) (by rw [vec_at Hka.out, Hqz.out]; exact hq0)), Ra, Oa, Fm, RX, Rr, Oq, Fg, Fu, Fv, Fc, Fd, HO⟩
           case measure => simp [intOf]; omega
          ·as_aux_lemma =>
           refine (sign_b (w := w12) Vk.out Sq2.out (by omega)).mono ?_
           rintro e w13 ⟨he, hB⟩
           obtain ⟨sgk, hs9, q0k, q1k⟩ := cmp3_nz (x := qz) hq0
           rw [hs9] at he
           subst he
           clear hs9
           replace Ra := hZ (Ra.out.blw hB)
           replace Oa := hZ (Oa.out.blw hB)
           replace Fm := hZ (Fm.out.blw hB)
           replace RX := hZ (RX.out.blw hB)
           replace Rr := hZ (Rr.out.blw hB)
           replace Oq := hZ (Oq.out.blw hB)
           replace Fg := hZ (Fg.out.blw hB)
           replace Fu := hZ (Fu.out.blw hB)
           replace Fv := hZ (Fv.out.blw hB)
           replace Fc := hZ (Fc.out.blw hB)
           replace Fd := hZ (Fd.out.blw hB)
           replace Vk := hZ (Vk.out.blw hB)
           replace HO := hZ (HO.out.blw hB)
           clear hB
           clear Vk
           obtain ⟨s_u, a_u, n_u, c_u, t_u, h_u⟩ := Fu.out
           have d0u := t_u.cell0
           have d1u := t_u.cell1
           have Vu := hZ h_u
           clear t_u h_u
           obtain ⟨s_v, a_v, n_v, c_v, t_v, h_v⟩ := Fv.out
           have d0v := t_v.cell0
           have d1v := t_v.cell1
           have Vv := hZ h_v
           clear t_v h_v
           obtain ⟨s_c, a_c, n_c, c_c, t_c, h_c⟩ := Fc.out
           have d0c := t_c.cell0
           have d1c := t_c.cell1
           have Vc := hZ h_c
           clear t_c h_c
           obtain ⟨s_d, a_d, n_d, c_d, t_d, h_d⟩ := Fd.out
           have d0d := t_d.cell0
           have d1d := t_d.cell1
           have Vd := hZ h_d
           clear t_d h_d
           go_wp2_with fail
           clear d0u d1u d0v d1v d0c d1c d0d d1d
           refine (combine_any w13 g ga br ba bm n c1 c2 k row2 as2 _ _ _ _ u v (-(y / dv)) (x / dv) m Rr.out Ra.out Hkr.out Hka.out pz qz Hpz.out Hqz.out hn hkl hc1a hc1b hc2 hc2' Oq.out Oa.out Fm.out (by omega) (by have := HWg.out; have := HW.out; have := Hba.out; have := Hbm.out; have := Hbr.out; omega) Vu.out Vv.out Vc.out Vd.out Su.out Sv.out Sc.out Sd.out (Sm.out.mono (by omega)) (Sp.out.mono (by omega)) (Sq2.out.mono (by omega))).mono ?_
           rintro e w14 ⟨⟨v9, rfl⟩, hr9, ha9, ho⟩
           have hN : ∀ b, b = g ∨ b = ga → NoInt w13 b := by rintro b (rfl | rfl); exact Rr.out.noInt; exact Ra.out.noInt
           clear Vu Vv Vc Vd
           replace Ra := hZ (ha9)
           replace RX := hZ (RX.out.only ho hN ⟨by rintro (e | e); exact HWg.out.2.2 e; exact Hne.out.1 e.symm, fun i hi hij => by rintro (e | e); exact RX.out.nodup i j hi hjl hij (e.trans HG.out.symm); exact Hne.out.2 i hi e⟩)
           replace Rr := hZ (hr9)
           replace Oa := hZ (Oa.out.only ho (by intro e; have := HWg.out; have := HW.out; have := Hba.out; have := Hbm.out; have := Hbr.out; have := Hb8.out; have := Hb10.out; have := Hb15.out; have := Hb18.out; omega))
           replace Fm := hZ (Fm.out.only ho hN (by intro e; have := HWg.out; have := HW.out; have := Hba.out; have := Hbm.out; have := Hbr.out; have := Hb8.out; have := Hb10.out; have := Hb15.out; have := Hb18.out; omega))
           replace Oq := hZ (Oq.out.only ho (by intro e; have := HWg.out; have := HW.out; have := Hba.out; have := Hbm.out; have := Hbr.out; have := Hb8.out; have := Hb10.out; have := Hb15.out; have := Hb18.out; omega))
           replace Fg := hZ (Fg.out.only ho hN (by intro e; have := HWg.out; have := HW.out; have := Hba.out; have := Hbm.out; have := Hbr.out; have := Hb8.out; have := Hb10.out; have := Hb15.out; have := Hb18.out; omega))
           replace Fu := hZ (Fu.out.only ho hN (by intro e; have := HWg.out; have := HW.out; have := Hba.out; have := Hbm.out; have := Hbr.out; have := Hb8.out; have := Hb10.out; have := Hb15.out; have := Hb18.out; omega))
           replace Fv := hZ (Fv.out.only ho hN (by intro e; have := HWg.out; have := HW.out; have := Hba.out; have := Hbm.out; have := Hbr.out; have := Hb8.out; have := Hb10.out; have := Hb15.out; have := Hb18.out; omega))
           replace Fc := hZ (Fc.out.only ho hN (by intro e; have := HWg.out; have := HW.out; have := Hba.out; have := Hbm.out; have := Hbr.out; have := Hb8.out; have := Hb10.out; have := Hb15.out; have := Hb18.out; omega))
           replace Fd := hZ (Fd.out.only ho hN (by intro e; have := HWg.out; have := HW.out; have := Hba.out; have := Hbm.out; have := Hbr.out; have := Hb8.out; have := Hb10.out; have := Hb15.out; have := Hb18.out; omega))
           replace HO := hZ (HO.out.trans (ho.mono (fun b e => by rcases e with rfl | rfl; exact Or.inr ⟨j, hjl, HG.out.symm⟩; exact Or.inl rfl)))
           clear ho hN hr9 ha9
           go_wp2_with fail
           go_roundw
           case rel => exact ⟨k + 1, row2.set k ((u * pz + v * qz) % m), as2.set k ((-(y / dv) * pz + x / dv * qz) % m), by omega, by omega, by go_num, hZ (HC.out.step hm0 hjk hkl (by rw [vec_at Hkr.out, Hpz.out]) (by rw [vec_at Hka.out, Hqz.out])), Ra, Oa, Fm, RX, Rr, Oq, Fg, Fu, Fv, Fc, Fd, HO⟩
           case measure => simp [intOf]; omega
         ·as_aux_lemma =>
          refine (sign_b (w := w11) Vp.out Sp.out (by omega)).mono ?_
          rintro e w12 ⟨he, hB⟩
          obtain ⟨sgp, hs9, q0p, q1p⟩ := cmp3_nz (x := pz) hp0
          rw [hs9] at he
          subst he
          clear hs9
          replace Ra := hZ (Ra.out.blw hB)
          replace Oa := hZ (Oa.out.blw hB)
          replace Fm := hZ (Fm.out.blw hB)
          replace RX := hZ (RX.out.blw hB)
          replace Rr := hZ (Rr.out.blw hB)
          replace Oq := hZ (Oq.out.blw hB)
          replace Fg := hZ (Fg.out.blw hB)
          replace Fu := hZ (Fu.out.blw hB)
          replace Fv := hZ (Fv.out.blw hB)
          replace Fc := hZ (Fc.out.blw hB)
          replace Fd := hZ (Fd.out.blw hB)
          replace Vp := hZ (Vp.out.blw hB)
          replace HO := hZ (HO.out.blw hB)
          clear hB
          clear Vp
          obtain ⟨s_u, a_u, n_u, c_u, t_u, h_u⟩ := Fu.out
          have d0u := t_u.cell0
          have d1u := t_u.cell1
          have Vu := hZ h_u
          clear t_u h_u
          obtain ⟨s_v, a_v, n_v, c_v, t_v, h_v⟩ := Fv.out
          have d0v := t_v.cell0
          have d1v := t_v.cell1
          have Vv := hZ h_v
          clear t_v h_v
          obtain ⟨s_c, a_c, n_c, c_c, t_c, h_c⟩ := Fc.out
          have d0c := t_c.cell0
          have d1c := t_c.cell1
          have Vc := hZ h_c
          clear t_c h_c
          obtain ⟨s_d, a_d, n_d, c_d, t_d, h_d⟩ := Fd.out
          have d0d := t_d.cell0
          have d1d := t_d.cell1
          have Vd := hZ h_d
          clear t_d h_d
          go_wp2_with fail
          clear d0u d1u d0v d1v d0c d1c d0d d1d
          refine (combine_any w12 g ga br ba bm n c1 c2 k row2 as2 _ _ _ _ u v (-(y / dv)) (x / dv) m Rr.out Ra.out Hkr.out Hka.out pz qz Hpz.out Hqz.out hn hkl hc1a hc1b hc2 hc2' Oq.out Oa.out Fm.out (by omega) (by have := HWg.out; have := HW.out; have := Hba.out; have := Hbm.out; have := Hbr.out; omega) Vu.out Vv.out Vc.out Vd.out Su.out Sv.out Sc.out Sd.out (Sm.out.mono (by omega)) (Sp.out.mono (by omega)) (Sq2.out.mono (by omega))).mono ?_
          rintro e w13 ⟨⟨v9, rfl⟩, hr9, ha9, ho⟩
          have hN : ∀ b, b = g ∨ b = ga → NoInt w12 b := by rintro b (rfl | rfl); exact Rr.out.noInt; exact Ra.out.noInt
          clear Vu Vv Vc Vd
          replace Ra := hZ (ha9)
          replace RX := hZ (RX.out.only ho hN ⟨by rintro (e | e); exact HWg.out.2.2 e; exact Hne.out.1 e.symm, fun i hi hij => by rintro (e | e); exact RX.out.nodup i j hi hjl hij (e.trans HG.out.symm); exact Hne.out.2 i hi e⟩)
          replace Rr := hZ (hr9)
          replace Oa := hZ (Oa.out.only ho (by intro e; have := HWg.out; have := HW.out; have := Hba.out; have := Hbm.out; have := Hbr.out; have := Hb8.out; have := Hb10.out; have := Hb15.out; have := Hb18.out; omega))
          replace Fm := hZ (Fm.out.only ho hN (by intro e; have := HWg.out; have := HW.out; have := Hba.out; have := Hbm.out; have := Hbr.out; have := Hb8.out; have := Hb10.out; have := Hb15.out; have := Hb18.out; omega))
          replace Oq := hZ (Oq.out.only ho (by intro e; have := HWg.out; have := HW.out; have := Hba.out; have := Hbm.out; have := Hbr.out; have := Hb8.out; have := Hb10.out; have := Hb15.out; have := Hb18.out; omega))
          replace Fg := hZ (Fg.out.only ho hN (by intro e; have := HWg.out; have := HW.out; have := Hba.out; have := Hbm.out; have := Hbr.out; have := Hb8.out; have := Hb10.out; have := Hb15.out; have := Hb18.out; omega))
          replace Fu := hZ (Fu.out.only ho hN (by intro e; have := HWg.out; have := HW.out; have := Hba.out; have := Hbm.out; have := Hbr.out; have := Hb8.out; have := Hb10.out; have := Hb15.out; have := Hb18.out; omega))
          replace Fv := hZ (Fv.out.only ho hN (by intro e; have := HWg.out; have := HW.out; have := Hba.out; have := Hbm.out; have := Hbr.out; have := Hb8.out; have := Hb10.out; have := Hb15.out; have := Hb18.out; omega))
          replace Fc := hZ (Fc.out.only ho hN (by intro e; have := HWg.out; have := HW.out; have := Hba.out; have := Hbm.out; have := Hbr.out; have := Hb8.out; have := Hb10.out; have := Hb15.out; have := Hb18.out; omega))
          replace Fd := hZ (Fd.out.only ho hN (by intro e; have := HWg.out; have := HW.out; have := Hba.out; have := Hbm.out; have := Hbr.out; have := Hb8.out; have := Hb10.out; have := Hb15.out; have := Hb18.out; omega))
          replace HO := hZ (HO.out.trans (ho.mono (fun b e => by rcases e with rfl | rfl; exact Or.inr ⟨j, hjl, HG.out.symm⟩; exact Or.inl rfl)))
          clear ho hN hr9 ha9
          go_wp2_with fail
          go_roundw
          case rel => exact ⟨k + 1, row2.set k ((u * pz + v * qz) % m), as2.set k ((-(y / dv) * pz + x / dv * qz) % m), by omega, by omega, by go_num, hZ (HC.out.step hm0 hjk hkl (by rw [vec_at Hkr.out, Hpz.out]) (by rw [vec_at Hka.out, Hqz.out])), Ra, Oa, Fm, RX, Rr, Oq, Fg, Fu, Fv, Fc, Fd, HO⟩
          case measure => simp [intOf]; omega
        ·as_aux_lemma =>
         obtain rfl : k = n := by omega
         have Hjr2 : Hid (j < row2.length) := hZ (by rw [HC.out.lenr]; exact hlt)
         have Hja2 : Hid (j < as2.length) := hZ (by rw [HC.out.lena]; exact hlt)
         have HN9 : Hid (br ≠ g ∧ ba ≠ g ∧ b15 ≠ g) := hZ (by have := HWg.out; have := HW.out; have := Hba.out; have := Hbm.out; have := Hbr.out; have := Hb8.out; have := Hb10.out; have := Hb15.out; have := Hb18.out; omega)
         have dor := Oq.out.cell
         go_wp2_with fail
         clear dor
         clear Fu Fv Fc Fd
         obtain ⟨w12, hwd⟩ : ∃ w', w11.drew = w' := ⟨_, rfl⟩
         have hB : Below w11.heap.size w11 w12 := by rw [← hwd]; exact (Below.refl _ _).drew
         replace Ra := hZ (Ra.out.blw hB)
         replace Oa := hZ (Oa.out.blw hB)
         replace Fm := hZ (Fm.out.blw hB)
         replace RX := hZ (RX.out.blw hB)
         replace Rr := hZ (Rr.out.blw hB)
         replace Oq := hZ (Oq.out.blw hB)
         replace Fg := hZ (Fg.out.blw hB)
         replace HO := hZ (HO.out.blw hB)
         clear hB
         have HBr : Hid (Only (fun b => b = g) w12 w12) := hZ (Only.refl _ _)
         refine startL [9] (fun w' => Only (fun b => b = g) w12 w') (by kernel_rfl) (by rw [hwd]; exact Only.refl _ _) (fun hHeld => ?_)
         rw [hwd] at hHeld ⊢
         clear hwd
         have dor := Oq.out.cell
         have doa := Oa.out.cell
         obtain ⟨s_g, a_g, n_g, c_g, t_g, h_g⟩ := Fg.out
         have d0g := t_g.cell0
         have d1g := t_g.cell1
         have Vg := hZ h_g
         clear t_g h_g
         refine takeL 0 130 (v := ?_) rfl rfl (by kernel_rfl) (by kernel_rfl) (by kernel_rfl) (by kernel_rfl) (by kernel_rfl) (fun _ _ _ h => h) (by rfl) ?_ (by assumption) ?_
         rotate_left
         ·(intro w hSw; have x0 := (hSw.cell (p := ⟨br, 0, none⟩) (show ¬ (br = g) by (have := HN9.out; omega)) Oq.out.lt).trans dor; go_simp; first | done | with_reducible rfl)
         simp only [sX1, sX2, sX3]
         refine pureL 1 131 (v := ?_) rfl rfl (by kernel_rfl) (by kernel_rfl) (by kernel_rfl) (fun _ _ _ h => h) (by rfl) ?_ ?_
         rotate_left
         ·(intro w; go_simp; first | done | with_reducible rfl)
         simp only [sX1, sX2, sX3]
         refine takeL 2 132 (v := ?_) rfl rfl (by kernel_rfl) (by kernel_rfl) (by kernel_rfl) (by kernel_rfl) (by kernel_rfl) (fun _ _ _ h => h) (by rfl) ?_ (by assumption) ?_
         rotate_left
         ·(intro w hSw; have x0 := (hSw.cell (p := ⟨ba, 0, none⟩) (show ¬ (ba = g) by (have := HN9.out; omega)) Oa.out.lt).trans doa; go_simp; first | done | with_reducible rfl)
         simp only [sX1, sX2, sX3]
         refine pureL 3 133 (v := ?_) rfl rfl (by kernel_rfl) (by kernel_rfl) (by kernel_rfl) (fun _ _ _ h => h) (by rfl) ?_ ?_
         rotate_left
         ·(intro w; go_simp; first | done | with_reducible rfl)
         simp only [sX1, sX2, sX3]
         refine takeL 4 134 (v := ?_) rfl rfl (by kernel_rfl) (by kernel_rfl) (by kernel_rfl) (by kernel_rfl) (by kernel_rfl) (fun _ _ _ h => h) (by rfl) ?_ (by assumption) ?_
         rotate_left
         ·(intro w hSw; have x0 := (hSw.cell (p := ⟨b15, 0, none⟩) (show ¬ (b15 = g) by (have := HN9.out; omega)) Fg.out.lt).trans d0g; have x1 := (hSw.cell (p := ⟨b15, 1, none⟩) (show ¬ (b15 = g) by (have := HN9.out; omega)) Fg.out.lt).trans d1g; go_simp; first | done | with_reducible rfl)
         simp only [sX1, sX2, sX3]
         refine pureL 5 135 (v := ?_) rfl rfl (by kernel_rfl) (by kernel_rfl) (by kernel_rfl) (fun _ _ _ h => h) (by rfl) ?_ ?_
         rotate_left
         ·(intro w; go_simp; first | done | with_reducible rfl)
         simp only [sX1, sX2, sX3]
         refine pureL 6 136 (v := ?_) rfl rfl (by kernel_rfl) (by kernel_rfl) (by kernel_rfl) (fun _ _ _ h => h) (by rfl) ?_ ?_
         rotate_left
         ·(intro w; go_simp; first | done | with_reducible rfl)
         simp only [sX1, sX2, sX3]
         clear d0g d1g
         clear dor doa
         obtain ⟨s_9, a_9, n_9, c_9, e0, e1, -⟩ := Rr.out.get (j) Hjr2.out
         have e2 := Rr.out.frozen (j * 2)
         have e3 := Rr.out.frozen (j * 2 + 1)
         have hn9 : NoInt w12 (g) := Rr.out.noInt
         obtain ⟨w13, hw⟩ : ∃ w', (w12.setCell ⟨g, j * 2, none⟩ (.bool s_g)).setCell ⟨g, j * 2 + 1, none⟩ (.slice a_g n_g c_g) = w' := ⟨_, rfl⟩
         have hw2 : st2 w12 (g) (j * 2) (j * 2 + 1) s_g a_g n_g c_g = w13 := hw
         replace Rr := hZ (WRow.put' Rr.out (j) Hjr2.out Vg.out)
         rw [hw2] at Rr
         replace Ra := hZ (Ra.out.offe hw2 hn9 (by have := HWg.out; have := HW.out; have := Hba.out; have := Hbm.out; have := Hbr.out; have := Hb8.out; have := Hb10.out; have := Hb15.out; have := Hb18.out; omega))
         replace Oa := hZ (Oa.out.offe hw2 (by have := HWg.out; have := HW.out; have := Hba.out; have := Hbm.out; have := Hbr.out; have := Hb8.out; have := Hb10.out; have := Hb15.out; have := Hb18.out; omega))
         replace Fm := hZ (Fm.out.offe hw2 hn9 (by have := HWg.out; have := HW.out; have := Hba.out; have := Hbm.out; have := Hbr.out; have := Hb8.out; have := Hb10.out; have := Hb15.out; have := Hb18.out; omega))
         replace RX := hZ (RwX.off (g := g) (o1 := j * 2) (o2 := j * 2 + 1) (s := s_g) (a := a_g) (n' := n_g) (c := c_g) RX.out hn9 ⟨HWg.out.2.2, fun i hi hij e => RX.out.nodup i j hi hjl hij (e.trans HG.out.symm)⟩)
         rw [hw2] at RX
         replace Oq := hZ (Oq.out.offe hw2 (by have := HWg.out; have := HW.out; have := Hba.out; have := Hbm.out; have := Hbr.out; have := Hb8.out; have := Hb10.out; have := Hb15.out; have := Hb18.out; omega))
         replace Fg := hZ (Fg.out.offe hw2 hn9 (by have := HWg.out; have := HW.out; have := Hba.out; have := Hbm.out; have := Hbr.out; have := Hb8.out; have := Hb10.out; have := Hb15.out; have := Hb18.out; omega))
         replace Vg := hZ (Vg.out.offe hw2 hn9)
         replace HO := hZ (HO.out.offe hw2 (Or.inl (Or.inr ⟨j, hjl, HG.out.symm⟩)))
         clear hw2 hn9
         replace HBr := hZ (HBr.out.off (g := g) (o1 := j * 2) (o2 := j * 2 + 1) (s := s_g) (a := a_g) (n := n_g) (c := c_g) (show g = g from rfl))
         rw [show st2 w12 (g) (j * 2) (j * 2 + 1) s_g a_g n_g c_g = w13 from hw] at HBr
         refine stepL 7 (by kernel_rfl) rfl (fun K hK => ?_)
         go_simp
         try rw [hw]
         refine hK.out _ _ HBr.out (fun hHeld => ?_)
         clear hK K
         try simp only [Act.put, sX1, sX2, sX3]
         clear hw e0 e1 e2 e3
         refine pureL 8 137 (v := ?_) rfl rfl (by kernel_rfl) (by kernel_rfl) (by kernel_rfl) (fun _ _ _ h => h) (by rfl) ?_ ?_
         rotate_left
         ·(intro w; go_simp; first | done | with_reducible rfl)
         simp only [sX1, sX2, sX3]
         obtain ⟨s_9, a_9, n_9, c_9, e0, e1, -⟩ := Ra.out.get (j) Hja2.out
         have e2 := Ra.out.frozen (j * 2)
         have e3 := Ra.out.frozen (j * 2 + 1)
         have hn9 : NoInt w13 (ga) := Ra.out.noInt
         obtain ⟨w14, hw⟩ : ∃ w', (w13.setCell ⟨ga, j * 2, none⟩ (.bool false)).setCell ⟨ga, j * 2 + 1, none⟩ (.slice none 0 0) = w' := ⟨_, rfl⟩
         have hw2 : st2 w13 (ga) (j * 2) (j * 2 + 1) false none 0 0 = w14 := hw
         replace Ra := hZ (WRow.put' Ra.out (j) Hja2.out (wint_zero _))
         rw [hw2] at Ra
         replace Oa := hZ (Oa.out.offe hw2 (by have := HWg.out; have := HW.out; have := Hba.out; have := Hbm.out; have := Hbr.out; have := Hb8.out; have := Hb10.out; have := Hb15.out; have := Hb18.out; omega))
         replace Fm := hZ (Fm.out.offe hw2 hn9 (by have := HWg.out; have := HW.out; have := Hba.out; have := Hbm.out; have := Hbr.out; have := Hb8.out; have := Hb10.out; have := Hb15.out; have := Hb18.out; omega))
         replace RX := hZ (RwX.off (g := ga) (o1 := j * 2) (o2 := j * 2 + 1) (s := false) (a := none) (n' := 0) (c := 0) RX.out hn9 ⟨Ne.symm Hne.out.1, fun i hi _ => Hne.out.2 i hi⟩)
         rw [hw2] at RX
         replace Rr := hZ (Rr.out.offe hw2 hn9 (by have := HWg.out; have := HW.out; have := Hba.out; have := Hbm.out; have := Hbr.out; have := Hb8.out; have := Hb10.out; have := Hb15.out; have := Hb18.out; omega))
         replace Oq := hZ (Oq.out.offe hw2 (by have := HWg.out; have := HW.out; have := Hba.out; have := Hbm.out; have := Hbr.out; have := Hb8.out; have := Hb10.out; have := Hb15.out; have := Hb18.out; omega))
         replace Fg := hZ (Fg.out.offe hw2 hn9 (by have := HWg.out; have := HW.out; have := Hba.out; have := Hbm.out; have := Hbr.out; have := Hb8.out; have := Hb10.out; have := Hb15.out; have := Hb18.out; omega))
         replace Vg := hZ (Vg.out.offe hw2 hn9)
         replace HO := hZ (HO.out.offe hw2 (Or.inl (Or.inl rfl)))
         clear hw2 hn9
         refine lateL 9 (by kernel_rfl) (by decide) rfl (fun K hK => ?_)
         go_simp
         try rw [hw]
         refine hK.out _ _ ?_
         clear hK K
         try simp only [Act.put, sX1, sX2, sX3]
         clear hw e0 e1 e2 e3
         refine doneL (by kernel_rfl) ?_ _
         clear hHeld
         go_wp2_with fail
         have HC2 : CombTo m u v (-(vec as1 j / dv)) (vec row j / dv) k j k row as1 row2 as2 := by rw [Hyd.out.1, Hyd.out.2]; exact HC.out
         obtain ⟨k1, k2, k3, k4, k5, k6⟩ := HC2.ins (by rw [Hyd.out.1, Hyd.out.2]; exact HBZ.out) HR0.out (fun k hk => HI.out.low k hk) Hrl.out Hal.out hlt (by have := Hdv.out; have := HBx.out; omega)
         go_roundw
         case rel => exact ⟨j + 1, sq1.set j (row2.set j dv), as2.set j 0, by omega, by go_num, hZ (HI.out.step hjs (by rw [HRow.out]; exact k1) k2 k3 k5 k6), hZ (RX.out.close hjl (by rw [HG.out]; exact Rr.out) k4), Ra, Oa, Fm, HO⟩
         case measure => simp [intOf]; omega
  ·skip
   obtain rfl : j = n := by omega
   go_wp2_with fail
   go_end0
   exact ⟨⟨_, rfl⟩, sq1, InsL.done (by rw [Hsl.out]; exact HI.out), RS.out, HI.out.bd, HO.out⟩
end Go.Proofs.Ytlmbebbdamgfpaa
