/- worldmintlaw06.LatticeMany. -/
import Derived.Test.YtlmbebbdamgfpaaQLLive
import Derived.Test.YtlmbebbdamgfpaaQRef01
set_option linter.unusedVariables false
set_option linter.unusedSimpArgs false
set_option linter.unusedVariables false
set_option linter.unusedSimpArgs false
namespace Go.Proofs.Ytlmbebbdamgfpaa
open Go.RowKit

theorem elemIs : Elem Try.prog 23 22 1 24 := Elem.mk (z := .slice none 0 0) Try.underlying23 (by kernel_rfl) rfl (by decide)
theorem MatAt.of_own {w : World} {base : Nat} {v : Value} {l : List (Nat × Nat)} {M : List (List Int)} (h : w.ownsRow base 22 1 v l.length (l.map rwI)) (hr : IntsIn w l M) (hc : ∀ r ∈ M, r.length ≤ 9223372036854775807) : MatAt w v M := by
 refine SliceOf.of_own (css := l.map (fun x => [rwI x])) (base := base) (e := 22) (by rw [flatten_one, List.length_map]; exact h) (fun cs h => by obtain ⟨x, _, rfl⟩ := List.mem_map.1 h; rfl) (by rw [List.length_map]; exact hr.len.symm) (fun j h1 h2 => ?_)
 have h3 : j < l.length := by rw [← hr.len]; exact h1
 obtain ⟨k1, k2⟩ := hr.row j h3
 rw [List.getElem_map]
 refine ⟨_, rfl, ?_⟩
 have := ints_of_blk k1 (Nat.le_refl _) (hc _ (List.getElem_mem _))
 rw [k2] at this
 exact this
theorem IntsIn.only' {w w' : World} {S : Nat → Prop} {l : List (Nat × Nat)} {M : List (List Int)} (h : IntsIn w l M) (ho : Only S w w') (hr : ∀ i (hi : i < l.length), ¬ S l[i].1) : IntsIn w' l M := ⟨h.len, fun i hi => ⟨(h.row i hi).1.only ho (hr i hi), (h.row i hi).2⟩⟩
theorem own_ne_ints {w : World} {base n g b : Nat} {v : Value} {xs cs : List Value} (h : w.ownsRow base 22 1 v n xs) (hb : v.ownBlock = some b) (hr : BlkC w g 3 cs) : g ≠ b := by
 rintro rfl
 rcases h.2 with ⟨hv, _⟩ | ⟨g', cap, cur, hv, _, hg, _⟩
 ·rw [hv] at hb; cases hb
 ·rw [hv] at hb
  simp only [Value.ownBlock, Option.some.injEq] at hb
  subst hb
  unfold BlkC at hr
  rw [hr] at hg
  injection hg with hg
  injection hg with _ hg2 _
  exact absurd hg2 (by decide)
theorem owns_below {w w' : World} {base k n : Nat} {e : TypeId} {v : Value} {xs : List Value} (hB : Below w.heap.size w w') (h : w.ownsRow base e k v n xs) : w'.ownsRow base e k v n xs := (Only.of_below (S := fun _ => False) hB).own h (fun _ _ h => h)
theorem dgM_chk {d : Int} (hd : 0 < d) (hd2 : d ≤ 5) {r c : Nat} (hr0 : 0 < r) : (r ≤ 64 ∧ c ≤ 128 → checkZ (dgM d r c) = 0) ∧ (¬ (r ≤ 64 ∧ c ≤ 128) → checkZ (dgM d r c) = 4) := by
 have hl := dgM_len d r c
 have h0 : 0 < (dgM d r c).length := by omega
 constructor
 ·intro h
  refine checkZ_ok.2 ⟨by omega, fun x hx => by rw [dgM_row d r c x hx]; exact h.2, fun x hx => ?_, fun x hx y hy => ?_⟩
  ·rw [dgM_row d r c x hx, List.getElem?_eq_getElem h0, Option.getD_some, dgM_row d r c _ (List.getElem_mem _)]
  ·rcases dgM_ent d r c x hx y hy with e | e <;> omega
 ·intro h
  by_cases h1 : 64 < r
  ·exact checkZ_rows (by omega)
  ·exact checkZ_cols (by omega) (List.getElem_mem h0) (by rw [dgM_row d r c _ (List.getElem_mem _)]; omega)
theorem dgM_cols {d : Int} {r c : Nat} (hr0 : 0 < r) : colsOf (dgM d r c) = c := by
 have h0 : 0 < (dgM d r c).length := by rw [dgM_len]; exact hr0
 unfold colsOf
 rw [List.getElem?_eq_getElem h0, Option.getD_some, dgM_row d r c _ (List.getElem_mem _)]
theorem dgM_fit {d : Int} (hd : 0 < d) (hd2 : d ≤ 5) {r c : Nat} : ∀ x ∈ dgM d r c, ∀ y ∈ x, fitZ y := by
 intro x hx y hy
 rcases dgM_ent d r c x hx y hy with e | e <;> subst e <;> constructor <;> omega

set_option maxRecDepth 100000 in
set_option maxHeartbeats 8000000 in
theorem latticeMany_any (rows columns by_ : Int) (w0 : World) (h1 : -9223372036854775808 ≤ rows) (h2 : rows ≤ 9223372036854775807) (h3 : -9223372036854775808 ≤ columns) (h4 : columns ≤ 9223372036854775807) (h5 : -9223372036854775808 ≤ by_) (h6 : by_ ≤ 9223372036854775807) :
 Calls Try.prog 10 #[.int .i64 rows, .int .i64 columns, .int .i64 by_] w0 fun e w' => e = .returned (.bool true) ∧ Below w0.heap.size w0 w' := by
 have HB := hZ (Below.refl w0.heap.size w0)
 have HA1 := hZ (around_any rows 9 w0 h1 h2 (by omega) (by omega))
 have HA2 := hZ (around_any columns 9 w0 h3 h4 (by omega) (by omega))
 have HA3 := hZ (fun w => around_any by_ 5 w h5 h6 (by omega) (by omega))
 have R1 := around_range rows 9 (by omega)
 have R2 := around_range columns 9 (by omega)
 have R3 := around_range by_ 5 (by omega)
 obtain ⟨ra, hra⟩ := Int.eq_ofNat_of_zero_le R1.1
 obtain ⟨ca, hca⟩ := Int.eq_ofNat_of_zero_le R2.1
 obtain ⟨d5, hd5⟩ : ∃ z, around by_ 5 = z := ⟨_, rfl⟩
 rw [hra] at HA1 R1
 rw [hca] at HA2 R2
 rw [hd5] at HA3 R3
 obtain ⟨-, R1⟩ := R1
 obtain ⟨-, R2⟩ := R2
 clear hra hca hd5 h1 h2 h3 h4 h5 h6
 go_enter Try.func10, Try.ntmps10
 go_wp2_with fail
 refine HA1.out.mono ?_
 rintro e w1 ⟨rfl, rfl⟩
 clear HA1
 go_wp2_with fail
 refine HA2.out.mono ?_
 rintro e w1 ⟨rfl, rfl⟩
 clear HA2
 go_wp2_with fail
 obtain ⟨r, hr⟩ : ∃ r : Nat, 60 + ra = r := ⟨_, rfl⟩
 obtain ⟨c, hc⟩ : ∃ c : Nat, 124 + ca = c := ⟨_, rfl⟩
 have er : (60 : Int) + (ra : Int) = (r : Int) := by omega
 have ec : (124 : Int) + (ca : Int) = (c : Int) := by omega
 rw [er, ec]
 have hr1 : 60 ≤ r ∧ r ≤ 68 := by omega
 have hc1 : 124 ≤ c ∧ c ≤ 132 := by omega
 clear er ec hr hc R1 R2
 obtain ⟨d, hd⟩ : ∃ d : Int, 1 + d5 = d := ⟨_, rfl⟩
 have hd1 : 0 < d ∧ d ≤ 5 := by omega
 have HO : Hid (w0.ownsRow w0.heap.size 22 1 (.slice none 0 0) ([] : List (Nat × Nat)).length (([] : List (Nat × Nat)).map rwI)) := hZ (World.ownsRow_nil _ _ _ _)
 go_loopw [10, 9] (fun i vm wr => ∃ (j : Nat) (cp : Nat) (ga : Option Addr) (l : List (Nat × Nat)), j ≤ r ∧ i = .int .i64 j ∧ vm = .slice ga l.length cp ∧ l.length ≤ cp ∧ cp ≤ 9223372036854775807 ∧ Hid (l.length = j) ∧ Hid (wr.ownsRow w0.heap.size 22 1 (.slice ga l.length cp) l.length (l.map rwI)) ∧ Hid (IntsIn wr l ((dgM d r c).take j)) ∧ Hid (Below w0.heap.size w0 wr)) (fun i _ _ => r - (intOf i).toNat)
 case atStart => exact ⟨0, 0, none, [], by omega, rfl, rfl, by simp, by omega, hZ rfl, HO, hZ (IntsIn.nil _), HB⟩
 case round =>
  clear HO HB
  obtain ⟨j, cp, ga, l, hj, rfl, rfl, hcp, hcp2, HL, HO, II, HB⟩ := hrel
  obtain ⟨w1, rfl⟩ : ∃ w' : World, w' = wr := ⟨_, rfl⟩
  by_cases hlt : j < r
  ·skip
   have j1 : (0 : Int) ≤ (j : Int) := by omega
   have j2 : (j : Int) < (c : Int) := by omega
   have j3 : (j : Int) < (r : Int) := by omega
   have HSz := hZ HB.out.size
   have HIl : Hid (∀ i (h : i < l.length), l[i].1 < w1.heap.size) := hZ II.out.lt
   go_wp2_with (at_make; refine wpList_make_ints rfl rfl (c) rfl rfl rfl rfl (by omega) ?_)
   intro w2 h_9 hB hlt9
   obtain ⟨g, hb⟩ : ∃ b, w1.heap.size = b := ⟨_, rfl⟩
   rw [hb] at h_9 ⊢
   have Oc' := hZ h_9
   have hge_g : Hid (w1.heap.size ≤ g) := hZ (Nat.le_of_eq hb)
   have hlt_g : Hid (g < w2.heap.size) := hZ (by rw [← hb]; exact hlt9)
   have hB9 := hB
   clear h_9 hb hlt9
   replace II := hZ (II.out.blw hB)
   replace HB := hZ (HB.out.trans (hB.mono HB.out.size))
   clear hB
   have Oc := Oc'
   clear Oc'
   replace HO := hZ (owns_below hB9 HO.out)
   clear hB9
   have HGg : Hid (w0.heap.size ≤ g ∧ (∀ i (h : i < l.length), l[i].1 ≠ g)) := hZ ⟨Nat.le_trans HSz.out hge_g.out, fun i hi => by have := HIl.out i hi; have := hge_g.out; omega⟩
   clear hge_g hlt_g HSz HIl
   go_wp2_with fail
   refine (HA3.out w2).mono ?_
   rintro e w9 ⟨rfl, hw9⟩
   subst hw9
   obtain ⟨u9, e1⟩ : ∃ u, w2.cell? ⟨g, j, none⟩ = some u := ⟨_, (Oc.out.cell j).trans (List.getElem?_eq_getElem (by simp; omega))⟩
   have hd9 : IntKind.i64.wrap (1 + d5) = d := by rw [IntWalk.i64_in _ (by omega)]; exact hd
   replace Oc : Hid (BlkC w2 g 3 ((List.replicate c (0 : Int)).map zv)) := hZ (by have h9 := Oc.out; simpa using h9)
   have e2 := Oc.out.frozen (j)
   obtain ⟨w3, hw⟩ : ∃ w', w2.setCell ⟨g, j, none⟩ (.int .i64 d) = w' := ⟨_, rfl⟩
   have Ocx := Oc
   have ho : Only (fun b => b = g) w2 w3 := by rw [← hw]; exact (Only.refl (fun b => b = g) _).set (p := ⟨g, j, none⟩) rfl _
   have hN : ∀ b, b = g → NoInt w2 b := fun b e => e ▸ Oc.out.noInt zv_noInt
   replace Oc := hZ ((by have h1 := Oc.out.set j (.int .i64 d); rw [hw] at h1; exact h1))
   replace II := hZ (II.out.only ho hN (fun i hi => HGg.out.2 i hi))
   replace HB := hZ (below_only HB.out ho (fun b e => by have := HGg.out; omega) HB.out.size)
   have ho9 := ho
   clear ho hN
   have Oc2 : Hid (BlkC w3 g 3 (((List.replicate c 0).set j d).map zv)) := hZ (by have h9 := Oc.out; rw [List.map_set]; simpa [zv] using h9)
   clear Oc
   replace HO := hZ (ho9.own HO.out (fun b e (h : b = g) => own_ne_ints HO.out e Ocx.out h.symm))
   clear ho9 Ocx
   have elen : ((List.replicate c (0 : Int)).set j d).length = c := by simp
   go_wp2_with (at_builtin; refine wpList_app1 (W0 := w0) elemIs rfl _ _ rfl [rwI (g, c)] 22 _ _ _ rfl rfl rfl (by simp [Value.oneCell', rwI]) HO.out HB.out HB.out.size (by have := HL.out; omega) (by omega) ?_)
   intro g9 cap9 w9 ho9 hb9 hon9 hc9 hgg
   have hc10 : l.length + 1 ≤ cap9 := by
    rcases ho9.out.2 with ⟨hv, _⟩ | ⟨_, _, _, hv, _, _, h4, _, _⟩
    ·cases hv
    ·injection hv with _ _ e
     omega
   have hI9 : IntsIn w9 (l ++ [(g, c)]) ((dgM d r c).take (j + 1)) := by
    have e1 : (dgM d r c).take (j + 1) = (dgM d r c).take j ++ [(List.replicate c 0).set j d] := by rw [List.take_succ_eq_append_getElem (by rw [dgM_len]; exact hlt), dgM_at d r c j hlt]
    rw [e1]
    have k1 := II.out.only' hon9.out (fun i hi e => own_ne_ints HO.out e (II.out.row i hi).1 rfl)
    have k2 := Oc2.out.only hon9.out (fun e => own_ne_ints HO.out e Oc2.out rfl)
    have k3 := k1.snoc k2
    rw [elen] at k3
    exact k3
   go_wp2_with fail
   go_roundw
   case rel => exact ⟨j + 1, cap9, some ⟨g9, 0, none⟩, l ++ [(g, c)], by omega, by go_num, by simp, by simpa using hc10, hc9, hZ (by have := HL.out; simp; omega), hZ (by have h9 := ho9.out; rw [List.length_append, List.map_append]; exact h9), hZ hI9, hb9⟩
   case measure => simp [intOf]; omega
  ·skip
   obtain rfl : j = r := by omega
   have j3 : ¬ (j : Int) < (j : Int) := by omega
   have HM : Hid (MatAt w1 (.slice ga l.length cp) (dgM d j c)) := hZ (MatAt.of_own HO.out (by have h9 := II.out; rwa [List.take_of_length_le (by rw [dgM_len]; exact Nat.le_refl _)] at h9) (fun x hx => by rw [dgM_row d j c x hx]; omega))
   clear HO II
   have hl9 := HL.out
   rw [hl9] at HM hcp ⊢
   clear hl9 HL
   have HC := hZ (dgM_chk hd1.1 hd1.2 (r := j) (c := c) (by omega))
   have hlen := dgM_len d j c
   have Hlen := hZ hlen
   clear hlen
   go_wp2_with fail
   by_cases hok : j ≤ 64 ∧ c ≤ 128
   ·skip
    have HZ := hZ (HC.out.1 hok)
    have HN := hZ (dgM_isn hd1.1 (show j ≤ c by omega))
    have HI := hZ (dgM_ind hd1.1 (show j ≤ c by omega))
    have Hcol := hZ (dgM_cols (d := d) (r := j) (c := c) (by omega))
    have Hfit := hZ (dgM_fit hd1.1 hd1.2 (r := j) (c := c))
    have Hrow := hZ (dgM_row d j c)
    have Hl0 : Hid (0 < (dgM d j c).length) := hZ (by rw [Hlen.out]; omega)
    generalize dgM d j c = m at *
    refine (hermite_any w1 _ m HM.out).mono ?_
    rintro e w2 ⟨hB, ⟨hz, -⟩ | ⟨-, Hm, k1, k2, -, k3⟩⟩
    ·exact absurd HZ.out hz
    obtain rfl : Hm = m := map_vec_inj (n := c) (fun r hr => (k2 r hr).trans Hcol.out) Hrow.out (k1.uniq (norm_self HN.out))
    obtain ⟨ua, rfl, hu⟩ := k3.fit Hfit.out
    have Mu' := hZ hu
    clear k1 k2 k3 hu
    replace HM := hZ (HM.out.blw hB)
    replace HB := hZ (HB.out.trans (hB.mono HB.out.size))
    clear hB
    have Mu := Mu'
    clear Mu'
    go_wp2_with fail
    refine (kernel_any w2 _ Hm HM.out).mono ?_
    rintro e w3 ⟨hB, ⟨hz, -⟩ | ⟨-, Hk, k1, k2, -, k3⟩⟩
    ·exact absurd HZ.out hz
    obtain rfl : Hk = [] := List.map_eq_nil_iff.1 ((Ind.ker k1).1 HI.out)
    obtain ⟨uk, rfl, hu⟩ := k3.fit (by simp)
    obtain ⟨ak, ck, rfl, -, -⟩ := hu.form
    clear k1 k2 k3 hu
    replace HM := hZ (HM.out.blw hB)
    replace Mu := hZ (Mu.out.blw hB)
    replace HB := hZ (HB.out.trans (hB.mono HB.out.size))
    clear hB
    have s1 : ¬ (64 : Int) < (j : Int) := by omega
    have s2 : ¬ (128 : Int) < (c : Int) := by omega
    go_wp2_with fail
    refine (same_any _ _ _ _ w3 Mu.out HM.out).mono ?_
    rintro e w4 ⟨rfl, hB⟩
    rw [decide_eq_true rfl]
    replace HM := hZ (HM.out.blw hB)
    replace Mu := hZ (Mu.out.blw hB)
    replace HB := hZ (HB.out.trans (hB.mono HB.out.size))
    clear hB
    go_wp2_with fail
    refine (independent_any w4 _ Hm HM.out).mono ?_
    rintro e w5 ⟨hB, tb, rfl, htb⟩
    obtain rfl : tb = true := htb.2 ⟨HZ.out, HI.out⟩
    clear htb
    replace HM := hZ (HM.out.blw hB)
    replace Mu := hZ (Mu.out.blw hB)
    replace HB := hZ (HB.out.trans (hB.mono HB.out.size))
    clear hB
    obtain ⟨b0, cap0, a0, c0, hv0, hb0, n0, HR0, g0, g00⟩ := HM.out.at_ 0 Hl0.out
    injection hv0 with f1 f2 f3
    subst f1
    clear f2 f3
    have HR0 := hZ HR0
    have HE0 : Hid (Hm[0]'Hl0.out ∈ Hm ∧ (Hm[0]'Hl0.out).length = c) := hZ ⟨List.getElem_mem _, Hrow.out _ (List.getElem_mem _)⟩
    generalize Hm[0]'Hl0.out = r0 at *
    have p1 : (0 : Int) < (j : Int) := by omega
    go_wp2_with fail
    clear n0
    refine (in_any w5 _ _ Hm r0 HM.out HR0.out (fun r hr x hx => Hfit.out r hr x hx) (fun x hx => Hfit.out r0 HE0.out.1 x hx)).mono ?_
    rintro e w6 ⟨hB, tb, rfl, htb⟩
    obtain rfl : tb = true := htb.2 ⟨by rw [Hlen.out]; exact hok.1, by rw [HE0.out.2]; exact hok.2, by rw [HE0.out.2]; exact HN.out, InSpan.mem (List.mem_map.2 ⟨r0, HE0.out.1, rfl⟩)⟩
    clear htb
    replace HM := hZ (HM.out.blw hB)
    replace Mu := hZ (Mu.out.blw hB)
    replace HB := hZ (HB.out.trans (hB.mono HB.out.size))
    clear hB
    go_wp2_with fail
    refine (lives_any w6).mono ?_
    rintro e w7 ⟨rfl, hB⟩
    replace HM := hZ (HM.out.blw hB)
    replace Mu := hZ (Mu.out.blw hB)
    replace HB := hZ (HB.out.trans (hB.mono HB.out.size))
    clear hB
    go_wp2_with fail
    go_ret
    exact ⟨rfl, HB.out⟩
   ·skip
    have HZ := hZ (HC.out.2 hok)
    have Hfit := hZ (dgM_fit hd1.1 hd1.2 (r := j) (c := c))
    have Hrow := hZ (dgM_row d j c)
    have Hl0 : Hid (0 < (dgM d j c).length) := hZ (by rw [Hlen.out]; omega)
    obtain ⟨Hm, hHm⟩ : ∃ m, dgM d j c = m := ⟨_, rfl⟩
    rw [hHm] at HM HZ Hfit Hrow Hl0 Hlen
    clear hHm HC
    refine (hermite_any w1 _ Hm HM.out).mono ?_
    rintro e w2 ⟨hB, ⟨-, rfl⟩ | ⟨hz, -⟩⟩
    rotate_left
    ·exact absurd (HZ.out.symm.trans hz) (by decide)
    rw [HZ.out]
    replace HM := hZ (HM.out.blw hB)
    replace HB := hZ (HB.out.trans (hB.mono HB.out.size))
    clear hB
    go_wp2_with fail
    refine (kernel_any w2 _ Hm HM.out).mono ?_
    rintro e w3 ⟨hB, ⟨-, rfl⟩ | ⟨hz, -⟩⟩
    rotate_left
    ·exact absurd (HZ.out.symm.trans hz) (by decide)
    rw [HZ.out]
    replace HM := hZ (HM.out.blw hB)
    replace HB := hZ (HB.out.trans (hB.mono HB.out.size))
    clear hB
    by_cases hj64 : 64 < j
    ·skip
     have s1 : (64 : Int) < (j : Int) := by omega
     go_wp2_with fail
     refine (independent_any w3 _ Hm HM.out).mono ?_
     rintro e w4 ⟨hB, tb, rfl, htb⟩
     obtain rfl : tb = false := by cases tb with | false => rfl | true => exact absurd ((htb.1 rfl).1.symm.trans HZ.out) (by decide)
     clear htb
     replace HM := hZ (HM.out.blw hB)
     replace HB := hZ (HB.out.trans (hB.mono HB.out.size))
     clear hB
     obtain ⟨b0, cap0, a0, c0, hv0, hb0, n0, HR0, g0, g00⟩ := HM.out.at_ 0 Hl0.out
     injection hv0 with f1 f2 f3
     subst f1
     clear f2 f3
     have HR0 := hZ HR0
     have HE0 : Hid (Hm[0]'Hl0.out ∈ Hm ∧ (Hm[0]'Hl0.out).length = c) := hZ ⟨List.getElem_mem _, Hrow.out _ (List.getElem_mem _)⟩
     generalize Hm[0]'Hl0.out = r0 at *
     have p1 : (0 : Int) < (j : Int) := by omega
     go_wp2_with fail
     clear n0
     refine (in_any w4 _ _ Hm r0 HM.out HR0.out (fun r hr x hx => Hfit.out r hr x hx) (fun x hx => Hfit.out r0 HE0.out.1 x hx)).mono ?_
     rintro e w5 ⟨hB, tb, rfl, htb⟩
     obtain rfl : tb = false := by cases tb with | false => rfl | true => (exact absurd (And.intro (Hlen.out ▸ (htb.1 rfl).1) (HE0.out.2 ▸ (htb.1 rfl).2.1)) hok)
     clear htb
     replace HM := hZ (HM.out.blw hB)
     replace HB := hZ (HB.out.trans (hB.mono HB.out.size))
     clear hB
     go_wp2_with fail
     refine (lives_any w5).mono ?_
     rintro e w6 ⟨rfl, hB⟩
     replace HM := hZ (HM.out.blw hB)
     replace HB := hZ (HB.out.trans (hB.mono HB.out.size))
     clear hB
     go_wp2_with fail
     go_ret
     exact ⟨rfl, HB.out⟩
    ·skip
     have s1 : ¬ (64 : Int) < (j : Int) := by omega
     have s2 : (128 : Int) < (c : Int) := by omega
     go_wp2_with fail
     refine (independent_any w3 _ Hm HM.out).mono ?_
     rintro e w4 ⟨hB, tb, rfl, htb⟩
     obtain rfl : tb = false := by cases tb with | false => rfl | true => exact absurd ((htb.1 rfl).1.symm.trans HZ.out) (by decide)
     clear htb
     replace HM := hZ (HM.out.blw hB)
     replace HB := hZ (HB.out.trans (hB.mono HB.out.size))
     clear hB
     obtain ⟨b0, cap0, a0, c0, hv0, hb0, n0, HR0, g0, g00⟩ := HM.out.at_ 0 Hl0.out
     injection hv0 with f1 f2 f3
     subst f1
     clear f2 f3
     have HR0 := hZ HR0
     have HE0 : Hid (Hm[0]'Hl0.out ∈ Hm ∧ (Hm[0]'Hl0.out).length = c) := hZ ⟨List.getElem_mem _, Hrow.out _ (List.getElem_mem _)⟩
     generalize Hm[0]'Hl0.out = r0 at *
     have p1 : (0 : Int) < (j : Int) := by omega
     go_wp2_with fail
     clear n0
     refine (in_any w4 _ _ Hm r0 HM.out HR0.out (fun r hr x hx => Hfit.out r hr x hx) (fun x hx => Hfit.out r0 HE0.out.1 x hx)).mono ?_
     rintro e w5 ⟨hB, tb, rfl, htb⟩
     obtain rfl : tb = false := by cases tb with | false => rfl | true => (exact absurd (And.intro (Hlen.out ▸ (htb.1 rfl).1) (HE0.out.2 ▸ (htb.1 rfl).2.1)) hok)
     clear htb
     replace HM := hZ (HM.out.blw hB)
     replace HB := hZ (HB.out.trans (hB.mono HB.out.size))
     clear hB
     go_wp2_with fail
     refine (lives_any w5).mono ?_
     rintro e w6 ⟨rfl, hB⟩
     replace HM := hZ (HM.out.blw hB)
     replace HB := hZ (HB.out.trans (hB.mono HB.out.size))
     clear hB
     go_wp2_with fail
     go_ret
     exact ⟨rfl, HB.out⟩
end Go.Proofs.Ytlmbebbdamgfpaa
