/- gain.Find. -/
import Derived.Test.YtfpcgjgkbniofaaGreatDoorGFindJ
set_option linter.unusedVariables false
set_option linter.unusedSimpArgs false
namespace Go.Proofs.YtfpcgjgkbniofaaGreatDoor
open Go.RowKit Go.Shelf
attribute [local go_sem] Oper.semAt_some

/-- what Find leaves -/
def FindIs (c : Cat) (w : World) : Sought → Value → Value → Value → Bool → Int → Prop
  | .found s, v1, v2, v3, b, er => b = true ∧ er = 0 ∧ NatsOf w v1 s ∧ IntsOf w v2 (needL c s) ∧ IntsOf w v3 (netL c s)
  | .nothing, v1, v2, v3, b, er => b = false ∧ er = 0 ∧ v1 = nilS ∧ v2 = nilS ∧ v3 = nilS
  | .empty, v1, v2, v3, b, er => b = false ∧ er = 21 ∧ v1 = nilS ∧ v2 = nilS ∧ v3 = nilS
def FindPost (c : Cat) (R : Sought) (w : World) (e : Ending) (w' : World) : Prop :=
  Below w.heap.size w w' ∧ ∃ v1 v2 v3 b er, e = .returned (.tuple #[.agg #[v1, v2, v3], .bool b, .int .i64 er]) ∧ FindIs c w' R v1 v2 v3 b er

set_option maxRecDepth 100000 in
set_option maxHeartbeats 1000000 in
theorem clone_any (v : Value) (l : List Nat) (w : World) (h : NatsOf w v l) (h0 : 0 < l.length) (hl : l.length ≤ 1000) : Calls Tryz.prog 43 #[v] w fun e w' => (∃ v', e = .returned v' ∧ w'.ownsRow w.heap.size 3 1 v' l.length (l.map natV)) ∧ Below w.heap.size w w' := by
  obtain ⟨b, cap, hv, hb, _⟩ := NatsOf.at_ h 0 h0
  have HC : Hid (∀ j u, (l.map natV)[j]? = some u → w.cell? ((⟨b, 0, none⟩ : Addr).add j) = some u) := Lib.hid (fun j u hu => by
    have hj : j < l.length := by
      rcases Nat.lt_or_ge j l.length with h1 | h1
      · exact h1
      · rw [List.getElem?_eq_none (by rw [List.length_map]; exact h1)] at hu; cases hu
    obtain ⟨b', cap', hv', _, hc⟩ := NatsOf.at_ h j hj
    rw [hv] at hv'
    injection hv' with e1 e2 e3
    injection e1 with e1
    injection e1 with e1
    subst e1
    have hadd : (⟨b, 0, none⟩ : Addr).add j = ⟨b, j, none⟩ := by unfold Addr.add; split <;> simp_all
    rw [List.getElem?_map, List.getElem?_eq_getElem hj] at hu
    rw [hadd, hc]
    exact hu)
  have HC2 : Hid (∀ j u, (l.map natV)[j]? = some u → (w.alloc (.cells #[] 3)).cell? ((⟨b, 0, none⟩ : Addr).add j) = some u) := Lib.hid (fun j u hu => by
    have hadd : (⟨b, 0, none⟩ : Addr).add j = ⟨b, j, none⟩ := by unfold Addr.add; split <;> simp_all
    have h9 := HC.out j u hu
    rw [hadd] at h9 ⊢
    rw [World.cell?_alloc_lt w _ _ hb]
    exact h9)
  subst hv
  clear h
  have heq := Lib.run_eql_slice_nil (P := Tryz.prog) w 22 3 (some ⟨b, 0, none⟩) l.length cap 0 0 Tryz.underlying22
  simp only [Option.isNone_some] at heq
  go_enter Tryz.func43, Tryz.ntmps43
  go_wp2_with (at_builtin; refine wpList_appN (W0 := w) (B := w.heap.size) elemInt rfl _ _ rfl (.slice (some ⟨w.heap.size, 0, none⟩) 0 0) 0 [] rfl ⟨b, 0, none⟩ l.length cap (l.map natV) rfl (by simp) HC2.out (by simp [natV, Value.oneCell']) (World.ownsRow_made w #[] 0 (Nat.le_refl _) (by unfold maxLen; omega) (by simp)) ((Below.refl _ _).alloc (Nat.le_refl _) _) (by simp) (by omega) (by omega) ?_)
  intro v5 w5 Hown HB HO
  go_wp2_with fail
  go_ret
  refine ⟨⟨_, rfl, ?_⟩, HB.out⟩
  have h9 := Hown.out
  simpa using h9

theorem usL_take (c : Cat) (j : Nat) (hj : j < c.rules.length) : (List.range (j + 1)).filter (fun (i : Nat) => usI c (i : Int)) = (List.range j).filter (fun (i : Nat) => usI c (i : Int)) ++ if usB c.rules[j] then [j] else [] := by
  rw [List.range_succ, List.filter_append]
  congr 1
  have hu : usI c (j : Int) = usB c.rules[j] := by unfold usI; simp [hj]
  cases hb : usB c.rules[j] with
  | true => simp [hu, hb]
  | false => simp [hu, hb]

/-- the boxes of Find -/
structure FBox (w W : World) (ai : Option Addr) (ni ci : Nat) (ar : Option Addr) (nr cr : Nat) (fuel : Int) : Prop where
  c : BoxC W w.heap.size (.slice ai ni ci) (.slice ar nr cr)
  f : One W (w.heap.size + 1) 3 (.int .i64 fuel)
  r1 : BlkC W (w.heap.size + 2) 42 [nilS, nilS, nilS]
  r2 : One W (w.heap.size + 3) 4 (.bool false)
  r3 : One W (w.heap.size + 4) 33 (.int .i64 0)
theorem FBox.below {w W W' : World} {ai : Option Addr} {ni ci : Nat} {ar : Option Addr} {nr cr : Nat} {fuel : Int} (h : FBox w W ai ni ci ar nr cr fuel) (hb : Below W.heap.size W W') : FBox w W' ai ni ci ar nr cr fuel :=
  ⟨h.c.below hb, h.f.below hb h.f.lt, h.r1.below hb h.r1.lt, h.r2.below hb h.r2.lt, h.r3.below hb h.r3.lt⟩
theorem FBox.new (w : World) (ai : Option Addr) (ni ci : Nat) (ar : Option Addr) (nr cr : Nat) (fuel : Int) :
    FBox w (((((w.alloc (.cells #[.slice ai ni ci, .slice ar nr cr, .slice none 0 0, .slice none 0 0] 28)).alloc (.cells #[.int .i64 fuel] 3)).alloc (.cells #[.slice none 0 0, .slice none 0 0, .slice none 0 0] 42)).alloc (.cells #[.bool false] 4)).alloc (.cells #[.int .i64 0] 33)) ai ni ci ar nr cr fuel := by
  have hB : ∀ (X : World) (o : Obj), Below X.heap.size X (X.alloc o) := fun X o => (Below.refl _ _).alloc (Nat.le_refl _) _
  refine ⟨((((BoxC.new w _ _).below (hB _ _)).below (hB _ _)).below (hB _ _)).below (hB _ _), ?_, ?_, ?_, ?_⟩
  · have h9 := (((One.new (w.alloc (.cells #[.slice ai ni ci, .slice ar nr cr, .slice none 0 0, .slice none 0 0] 28)) 3 (.int .i64 fuel)).alloc (.cells #[.slice none 0 0, .slice none 0 0, .slice none 0 0] 42)).alloc (.cells #[.bool false] 4)).alloc (.cells #[.int .i64 0] 33)
    simpa using h9
  · have h9 := ((BlkC.new ((w.alloc (.cells #[.slice ai ni ci, .slice ar nr cr, .slice none 0 0, .slice none 0 0] 28)).alloc (.cells #[.int .i64 fuel] 3)) 42 [nilS, nilS, nilS]).alloc (.cells #[.bool false] 4)).alloc (.cells #[.int .i64 0] 33)
    simpa [nilS] using h9
  · have h9 := (One.new (((w.alloc (.cells #[.slice ai ni ci, .slice ar nr cr, .slice none 0 0, .slice none 0 0] 28)).alloc (.cells #[.int .i64 fuel] 3)).alloc (.cells #[.slice none 0 0, .slice none 0 0, .slice none 0 0] 42)) 4 (.bool false)).alloc (.cells #[.int .i64 0] 33)
    simpa using h9
  · have h9 := One.new ((((w.alloc (.cells #[.slice ai ni ci, .slice ar nr cr, .slice none 0 0, .slice none 0 0] 28)).alloc (.cells #[.int .i64 fuel] 3)).alloc (.cells #[.slice none 0 0, .slice none 0 0, .slice none 0 0] 42)).alloc (.cells #[.bool false] 4)) 33 (.int .i64 0)
    simpa using h9

set_option maxRecDepth 100000 in
set_option maxHeartbeats 8000000 in
theorem find_main (vi vr : Value) (c : Cat) (most : Nat) (fuel : Int) (w : World) (hc : CatAt w vi vr c) (hf : Fine c) (hm1 : 1 ≤ most) (hm8 : most ≤ 8) (hu16 : (usL c).length ≤ 16) (hf1 : -9223372036854775808 ≤ fuel) (hf2 : fuel ≤ 9223372036854775807) (hK : Kinds w) :
    CallsIn Fence.wide 31 Tryz.prog 18 #[catV vi vr, .int .i64 (most : Int), .int .i64 fuel] w (FindPost c (scan (gainS c) (seqs (usL c) most) fuel) w) := by
  obtain ⟨ai, ci, rfl, hi1, hi2⟩ := hc.items.form
  obtain ⟨ar, cr, rfl, hr1, hr2⟩ := hc.rules.form
  have HC := Lib.hid hc
  have HF := Lib.hid hf
  have HK := Lib.hid hK
  have hli := hf.good.items
  have hlr := hf.good.rules
  have HU16 := Lib.hid hu16
  clear hc hf hK hu16
  unfold catV
  refine callsIn_of_wp_marks Tryz.func18 rfl trivial ?_ rfl
  simp only [Tryz.ntmps18, List.size_toArray, List.length_cons, List.length_nil, Nat.reduceAdd, Nat.reduceSub, Array.replicate_succ, Array.replicate_zero, List.push_toArray, List.append_toArray, List.nil_append, List.cons_append]
  refine wpIn_wide.2 ?_
  obtain ⟨w1, hw1⟩ : ∃ w1, (((((w.alloc (.cells #[.slice ai c.items.length ci, .slice ar c.rules.length cr, .slice none 0 0, .slice none 0 0] 28)).alloc (.cells #[.int .i64 fuel] 3)).alloc (.cells #[.slice none 0 0, .slice none 0 0, .slice none 0 0] 42)).alloc (.cells #[.bool false] 4)).alloc (.cells #[.int .i64 0] 33)) = w1 := ⟨_, rfl⟩
  have HB : Hid (Below w.heap.size w w1) := Lib.hid (by rw [← hw1]; exact (((((Below.refl _ _).alloc (Nat.le_refl _) _).alloc (by simp) _).alloc (by simp; omega) _).alloc (by simp; omega) _).alloc (by simp; omega) _)
  have HX : Hid (FBox w w1 ai c.items.length ci ar c.rules.length cr fuel) := Lib.hid (by rw [← hw1]; exact FBox.new _ _ _ _ _ _ _ _)
  have m0 := HX.out.c.c0
  have m1 := HX.out.c.c1
  have m2 := HX.out.c.c2
  have m3 := HX.out.c.c3
  have mf := HX.out.f.cell
  have mlt := HX.out.c.lt
  go_wp2_with fail
  clear hw1
  refine (valid_good _ _ c w1 (HC.out.below HB.out) HF.out.good HF.out.named HF.out.ni HF.out.nr (HK.out.keep HB.out)).mono ?_
  rintro e w2 ⟨rfl, hB⟩
  replace HB := Lib.hid (HB.out.trans (hB.mono HB.out.size))
  replace HX := Lib.hid (HX.out.below hB)
  clear hB m0 m1 m2 m3 mf mlt
  have m0 := HX.out.c.c0
  have m1 := HX.out.c.c1
  have m2 := HX.out.c.c2
  have m3 := HX.out.c.c3
  have mf := HX.out.f.cell
  have mlt := HX.out.c.lt
  have q1 : decide ((most : Int) < 1) = false := by simp; omega
  have q2 : decide ((8 : Int) < (most : Int)) = false := by simp; omega
  go_wp2_with fail
  clear m0 m1 m2 m3 mf
  go_loopw [10, 32] (fun o i wr => ∃ (j : Nat) (ga : Option Addr) (gc : Nat), j ≤ c.rules.length ∧ i = .int .i64 j ∧ o = .slice ga (usT c j).length gc ∧ gc ≤ 9223372036854775807 ∧ (usT c j).length ≤ gc ∧ Hid (wr.ownsRow w2.heap.size 3 1 (.slice ga (usT c j).length gc) (usT c j).length ((usT c j).map natV)) ∧ Hid (Below w2.heap.size w2 wr)) (fun _ i _ => c.rules.length - (intOf i).toNat)
  case atStart => exact ⟨0, none, 0, by omega, rfl, rfl, by omega, by simp [usT], Lib.hid (World.ownsRow_nil _ _ _ _), Lib.hid (Below.refl _ _)⟩
  case round =>
    obtain ⟨j, ga, gc, hj, rfl, rfl, hgc, hgl, HO, HBl⟩ := hrel
    have hlen := usT_len c j
    by_cases hlt : j < c.rules.length
    · obtain ⟨b, cap, p, hv, hb, hr, hcs⟩ := RulesAt.at_ (HC.out.rules.below (HB.out.trans (HBl.out.mono HB.out.size))) j hlt
      injection hv with e1 e2 e3
      subst e1
      clear e2 e3
      obtain ⟨c0, c1, c2, c3, c4, c5, c6, c7, c8⟩ := hcs
      have HR1 := Lib.hid hr.t1
      have HT : Hid (usT c (j + 1) = usT c j ++ if usB c.rules[j] then [j] else []) := Lib.hid (usL_take c j hlt)
      have HUS := Lib.hid (fun W => usable_any c.rules[j] p W HR1.out)
      unfold rulV at HUS
      clear hr
      generalize c.rules[j] = x at *
      go_wp2_with fail
      refine (HUS.out _).mono ?_
      rintro e w5 ⟨rfl, hB5⟩
      have HB5 := Lib.hid ((HBl.out.alloc HBl.out.size _).trans (hB5.mono (by simp; have := HBl.out.size; omega)))
      have HO5 : Hid (w5.ownsRow w2.heap.size 3 1 (.slice ga (usT c j).length gc) (usT c j).length ((usT c j).map natV)) := Lib.hid ((Only.of_below (S := fun _ => False) hB5).own (HO.out.alloc _) (fun _ _ h => h))
      clear hB5 c0 c1 c2 c3 c4 c5 c6 c7 c8
      cases hub : usB x with
      | true =>
        rw [hub] at HT
        go_wp2_with (at_builtin; refine wpList_app1 elemInt rfl _ _ rfl [.int .i64 (j : Int)] 3 _ _ _ rfl rfl rfl (by simp [Value.oneCell']) HO5.out HB5.out (by have := HB5.out.size; omega) (by omega) (by omega) ?_)
        intro g6 cap6 w6 Hown6 HB6 HO6 hcap6 hat6
        have hlen6 : (usT c (j + 1)).length = (usT c j).length + 1 := by rw [HT.out]; simp
        have Hown7 : Hid (w6.ownsRow w2.heap.size 3 1 (.slice (some ⟨g6, 0, none⟩) (usT c (j + 1)).length cap6) (usT c (j + 1)).length ((usT c (j + 1)).map natV)) := Lib.hid (by rw [hlen6, HT.out]; have h9 := Hown6.out; simpa [natV] using h9)
        have hcl : (usT c (j + 1)).length ≤ cap6 := by
          rcases Hown7.out.2 with ⟨hv, _⟩ | ⟨_, _, _, hv, _, _, h4, h3, _⟩
          · cases hv
          · injection hv with _ _ e; omega
        have HL6 := Lib.hid hlen6
        clear Hown6 HO6 hat6 HO5 HO hub hlen6
        go_wp2_with fail
        go_roundw
        case rel => exact ⟨j + 1, some ⟨g6, 0, none⟩, cap6, by omega, by go_num, by rw [HL6.out], hcap6, hcl, Hown7, HB6⟩
        case measure => simp [intOf]; omega
      | false =>
        rw [hub] at HT
        have HE6 : Hid (usT c (j + 1) = usT c j) := Lib.hid (by rw [HT.out]; simp)
        clear hub
        go_wp2_with fail
        go_roundw
        case rel => exact ⟨j + 1, ga, gc, by omega, by go_num, by rw [HE6.out], hgc, by rw [HE6.out]; exact hgl, Lib.hid (by rw [HE6.out]; exact HO5.out), HB5⟩
        case measure => simp [intOf]; omega
    · obtain rfl : j = c.rules.length := by omega
      have hul : usT c c.rules.length = usL c := rfl
      rw [hul] at hgl HO hlen
      have h16 := HU16.out
      have HOU := Lib.hid HO.out
      have hB2l : w.heap.size + 5 ≤ w2.heap.size := by have := HX.out.r3.lt; omega
      replace HX := Lib.hid (HX.out.below HBl.out)
      replace HB := Lib.hid (HB.out.trans (HBl.out.mono HB.out.size))
      rw [hul]
      clear hul HO HBl
      generalize hU : usL c = U at *
      have HUU := Lib.hid hU
      clear hU mlt
      have m0 := HX.out.c.c0
      have m1 := HX.out.c.c1
      have m2 := HX.out.c.c2
      have m3 := HX.out.c.c3
      have mf := HX.out.f.cell
      have mlt := HX.out.c.lt
      have q3 : decide ((16 : Int) < (U.length : Int)) = false := by simp; omega
      have q4 : decide (16 < U.length) = false := by simp; omega
      have hmk := run_makeZ c.items.length (by omega)
      go_wp2_with fail
      clear hmk m0 m1 m2 m3 mf
      refine (sequences_any ga U.length gc most _).mono ?_
      rintro e w' ⟨rfl, hw'⟩
      obtain ⟨wq, hwq⟩ : ∃ wq, w' = wq := ⟨_, rfl⟩
      rw [hwq] at hw' ⊢
      clear hwq
      go_wp2_with fail
      refine (wpIn_wide (n := 31)).1 ?_
      have hz0 : wq.heap.size = wr.heap.size + 4 := by rw [← hw']; simp
      refine range_stmt rfl (by omega) (gf := 91) (lb := #[.pointer (some ⟨wr.heap.size + 1 + 1, 0, none⟩), .pointer (some ⟨wr.heap.size + 1 + 1 + 1, 0, none⟩)]) rfl trivial (enters_of Tryz.func91 (by kernel_rfl) rfl) ?_
      intro fn _
      generalize hrec : recOf fn _ _ _ _ _ = rec
      obtain ⟨Wb, hWb⟩ : ∃ Wb, (wq.alloc (.deferred (some []))).alloc (.loop (rec .ready none)) = Wb := ⟨_, rfl⟩
      rw [hWb]
      obtain ⟨gb, hgb⟩ : ∃ gb, wr.heap.size = gb := ⟨_, rfl⟩
      obtain ⟨n, hn⟩ : ∃ n, c.items.length = n := ⟨_, rfl⟩
      have hbase := find_base wr n ga gc U.length (most : Int) (rec .ready none) gb hgb Wb (by rw [← hWb, ← hw', hgb, hn])
      obtain ⟨bb, b0, b1, b2, b3, b4, b5, b6⟩ := hbase
      have hgw : w.heap.size + 5 ≤ gb := by have := HX.out.r3.lt; omega
      have hob : ∀ b, (Value.slice ga U.length gc).ownBlock = some b → w.heap.size + 5 ≤ b ∧ b < gb := fun b hb => by have := HOU.out.lt b hb; omega
      have hbb2 : Below wr.heap.size wr Wb := by rw [hgb]; exact bb
      have hFB : FB w ai n ci ar c.rules.length cr gb ga gc w2.heap.size U most Wb := by
        have hx := HX.out.below hbb2
        rw [hn] at hx
        exact ⟨hx.c, b1, b2, b3, (Only.of_below (S := fun _ => False) hbb2).own HOU.out (fun _ _ h => h), b4, HB.out.trans (hbb2.mono HB.out.size), by omega⟩
      have hFJ : FJ w Wb c U most fuel gb n rec 0 Wb := by
        have hx := HX.out.below hbb2
        exact ⟨Only.refl _ _, by omega, b5, by simpa using hx.f, ⟨_, bagL_len _ _, b0⟩, hx.r1, hx.r2, hx.r3, fun q s hq => by omega, .inl rfl⟩
      have HFB := Lib.hid hFB
      have HFJ := Lib.hid hFJ
      have HOB := Lib.hid hob
      have HB6 := Lib.hid b6
      have hUr : ∀ i ∈ U, i < c.rules.length := by
        intro i hi
        rw [← HUU.out] at hi
        have := List.mem_range.1 (List.mem_filter.1 hi).1
        exact this
      have HUR := Lib.hid hUr
      have hn1 : 1 ≤ n := by have := HF.out.good.some_; omega
      have hn6 : n ≤ 6 := by omega
      have hbm : wr.heap.size + 1 + 1 + 1 = gb + 3 := by omega
      have hbi : wr.heap.size + 1 + 1 = gb + 2 := by omega
      have hbx : wr.heap.size + 1 = gb + 1 := by omega
      have hll : wq.heap.size + 1 = gb + 5 := by omega
      have hlD : wq.heap.size = gb + 4 := by omega
      have hr4 : w.heap.size + 1 + 1 + 1 + 1 = w.heap.size + 4 := by omega
      have hr3 : w.heap.size + 1 + 1 + 1 = w.heap.size + 3 := by omega
      have hr2 : w.heap.size + 1 + 1 = w.heap.size + 2 := by omega
      rw [hbm, hbi, hbx, hn, hr4, hr3, hr2] at hrec
      rw [hbm, hbi, hbx, hll, hlD, hr4, hr3, hr2]
      rw [hlD] at hrec
      clear hr4 hr3 hr2 hFB hFJ hob b0 b1 b2 b3 b4 b5 b6 bb hbb2 hWb hw' hz0 hbm hbi hbx hll hlD hUr HOU HX
      have hY : ∀ k s v W, (seqs U most)[k]? = some s → FJ w Wb c U most fuel gb n rec k W → W.ownsRow (gb + 6 + 3) 3 1 v s.length (s.map natV) → YieldAt Fence.wide 29 Tryz.prog (gb + 5) #[v] W fun e W' =>
          ((e = .returned (.bool true) ∧ FJ w Wb c U most fuel gb n rec (k + 1) W') ∨ (e = .returned (.bool false) ∧ FX w Wb c U most fuel gb n rec W')) ∧ KeepsUp (gb + 6) W W' := by
        intro k s v W hk hJ hv
        have hl := hJ.rd
        rw [← hrec] at hl
        refine yield_round trivial hl rfl ?_
        rw [hrec] at hl ⊢
        have Hrec := Lib.hid hrec
        have Hgb := Lib.hid hgb
        have Hn := Lib.hid hn
        clear hrec hgb hn
        obtain ⟨va, vc, rfl, hva, hvc⟩ := (nats_of_own hv).form
        have hns := nats_of_own hv
        obtain ⟨W2, hW2⟩ : ∃ W2, W.putObj (gb + 5) (.loop (rec .busy none)) = W2 := ⟨_, rfl⟩
        have hO2 : Only (fun b => b = gb + 5) W W2 := by rw [← hW2]; exact only_putObj _ _ _
        have hlt5 : gb + 5 < W.heap.size := by have := hJ.sz; omega
        have hl2 : W2.heap[gb + 5]? = some (.loop (rec .busy none)) := by rw [← hW2]; exact World.putObj_heap_same hlt5
        have hF2 : FB w ai n ci ar c.rules.length cr gb ga gc w2.heap.size U most W2 := HFB.out.only (hJ.on.trans (hO2.mono (fun b hb => by unfold SX; omega))) hgw HOB.out
        have hv2 : W2.ownsRow (gb + 9) 3 1 (.slice va s.length vc) s.length (s.map natV) := hO2.own hv (fun b hb => by have := (hv.lt b hb).1; omega)
        have hf2 := hO2.one hJ.f (by omega)
        have hr12 := hJ.r1.only hO2 (by omega)
        have hr22 := hO2.one hJ.r2 (by omega)
        have hr32 := hO2.one hJ.r3 (by omega)
        obtain ⟨L, hL, hbag⟩ := hJ.bag
        have hbag2 := hbag.only hO2 (by omega)
        have HSC := Lib.hid (scan_at (g := gainS c) (seqs U most) k fuel s hk hJ.no hJ.le)
        have HJ := Lib.hid hJ
        have HF2 := Lib.hid hF2
        have HV2 := Lib.hid hv2
        have Hf2 := Lib.hid hf2
        have Hr1 := Lib.hid hr12
        have Hr2 := Lib.hid hr22
        have Hr3 := Lib.hid hr32
        have HL := Lib.hid hL
        have Hbag := Lib.hid hbag2
        have Hl2 := Lib.hid hl2
        have HO2 := Lib.hid hO2
        have Hk := Lib.hid hk
        have m0 := hF2.cb.c0
        have m1 := hF2.cb.c1
        have m2 := hF2.cb.c2
        have m3 := hF2.cb.c3
        have mlt := hF2.cb.lt
        have mb := hF2.bagb.cell
        have mf := hf2.cell
        have mff := hf2.frozen
        have hfk : -9223372036854775808 ≤ fuel - k ∧ fuel - k ≤ 9223372036854775807 := by rcases hJ.le with h | h <;> omega
        have hsz := hJ.sz
        have Hlt5 := Lib.hid hlt5
        have Hsz := Lib.hid hsz
        have Hl := Lib.hid hl
        clear hl hlt5 hsz hJ hk hv hns hO2 hF2 hl2 hv2 hf2 hr12 hr22 hr32 hL hbag hbag2
        gi_wp2
        refine ⟨Hl.out, ?_⟩
        clear hW2
        by_cases hfl : fuel - (k : Int) ≤ 0
        · have qf : decide (fuel - (k : Int) ≤ 0) = true := by simpa using hfl
          have p0 := Hr1.out.cell 0
          have p1 := Hr1.out.cell 1
          have p2 := Hr1.out.cell 2
          have g0 := Hr1.out.frozen 0
          have g1 := Hr1.out.frozen 1
          have g2 := Hr1.out.frozen 2
          have p3 := Hr2.out.cell
          have g3 := Hr2.out.frozen
          have p4 := Hr3.out.cell
          have g4 := Hr3.out.frozen
          simp only [List.getElem?_cons_zero, List.getElem?_cons_succ, nilS] at p0 p1 p2
          repeat (first | go_values | gi_guarded | gi_step | gi_upon)
          clear p0 p1 p2 p3 p4 g0 g1 g2 g3 g4 m0 m1 m2 m3 mb mf mff mlt
          obtain ⟨X, hX⟩ : ∃ X, (((((W2.setCell ⟨w.heap.size + 2, 0, none⟩ (.slice none 0 0)).setCell ⟨w.heap.size + 2, 1, none⟩ (.slice none 0 0)).setCell ⟨w.heap.size + 2, 2, none⟩ (.slice none 0 0)).setCell ⟨w.heap.size + 3, 0, none⟩ (.bool false)).setCell ⟨w.heap.size + 4, 0, none⟩ (.int .i64 21)) = X := ⟨_, rfl⟩
          rw [hX]
          have hOX : Only (fun b => w.heap.size + 2 ≤ b ∧ b ≤ w.heap.size + 4) W2 X := by
            rw [← hX]
            exact ((((((Only.refl _ W2).set (p := ⟨w.heap.size + 2, 0, none⟩) (by simp) _).set (p := ⟨w.heap.size + 2, 1, none⟩) (by simp) _).set (p := ⟨w.heap.size + 2, 2, none⟩) (by simp) _).set (p := ⟨w.heap.size + 3, 0, none⟩) (by simp) _).set (p := ⟨w.heap.size + 4, 0, none⟩) (by simp) _)
          have hX1 : BlkC X (w.heap.size + 2) 42 [nilS, nilS, nilS] := by
            rw [← hX]
            exact ((((Hr1.out.set 0 _).set 1 _).set 2 _).far (p := ⟨w.heap.size + 3, 0, none⟩) (show w.heap.size + 2 ≠ w.heap.size + 3 by omega) _).far (p := ⟨w.heap.size + 4, 0, none⟩) (show w.heap.size + 2 ≠ w.heap.size + 4 by omega) _
          have hX2 : One X (w.heap.size + 3) 4 (.bool false) := by
            rw [← hX]
            exact ((((Hr2.out.far (p := ⟨w.heap.size + 2, 0, none⟩) (show w.heap.size + 3 ≠ w.heap.size + 2 by omega) _).far (p := ⟨w.heap.size + 2, 1, none⟩) (show w.heap.size + 3 ≠ w.heap.size + 2 by omega) _).far (p := ⟨w.heap.size + 2, 2, none⟩) (show w.heap.size + 3 ≠ w.heap.size + 2 by omega) _).set _).far (p := ⟨w.heap.size + 4, 0, none⟩) (show w.heap.size + 3 ≠ w.heap.size + 4 by omega) _
          have hX3 : One X (w.heap.size + 4) 33 (.int .i64 21) := by
            rw [← hX]
            exact ((((Hr3.out.far (p := ⟨w.heap.size + 2, 0, none⟩) (show w.heap.size + 4 ≠ w.heap.size + 2 by omega) _).far (p := ⟨w.heap.size + 2, 1, none⟩) (show w.heap.size + 4 ≠ w.heap.size + 2 by omega) _).far (p := ⟨w.heap.size + 2, 2, none⟩) (show w.heap.size + 4 ≠ w.heap.size + 2 by omega) _).far (p := ⟨w.heap.size + 3, 0, none⟩) (show w.heap.size + 4 ≠ w.heap.size + 3 by omega) _).set _
          have hlX : X.heap[gb + 5]? = some (.loop (rec .busy none)) := (hOX.block _ (by have := HO2.out.size; have := Hlt5.out; omega) (by omega)).trans Hl2.out
          refine ⟨hlX, ?_⟩
          have hOY := only_putObj X (gb + 5) (.loop (rec .done (some .ret)))
          have hrY : (X.putObj (gb + 5) (.loop (rec .done (some .ret)))).heap[gb + 5]? = some (.loop (rec .done (some .ret))) := World.putObj_heap_same (Array.getElem?_eq_some_iff.1 hlX).1
          obtain ⟨Y, hY⟩ : ∃ Y, X.putObj (gb + 5) (.loop (rec .done (some .ret))) = Y := ⟨_, rfl⟩
          rw [hY] at hOY hrY ⊢
          have hS1 : Only (fun b => (w.heap.size + 2 ≤ b ∧ b ≤ w.heap.size + 4) ∨ b = gb + 5) W Y := ((HO2.out.mono (fun b hb => .inr hb)).trans (hOX.mono (fun b hb => .inl hb))).trans (hOY.mono (fun b hb => .inr hb))
          refine ⟨.inr ⟨rfl, HJ.out.on.trans (hS1.mono (fun b hb => by unfold SX; omega)), Nat.le_trans Hsz.out hS1.size, hrY, nilS, nilS, nilS, false, 21, hX1.only hOY (by omega), hOY.one hX2 (by omega), hOY.one hX3 (by omega), .inl ⟨HSC.out.1 hfl, rfl, rfl, rfl, rfl, rfl⟩⟩, keepsUp_of hS1 (fun b hb => by omega)⟩
        · have qf : decide (fuel - (k : Int) ≤ 0) = false := by simpa using hfl
          obtain ⟨W3, hW3⟩ : ∃ W3, W2.setCell ⟨w.heap.size + 1, 0, none⟩ (.int .i64 (fuel - (k : Int) - 1)) = W3 := ⟨_, rfl⟩
          have hO3 : Only (fun b => b = w.heap.size + 1) W2 W3 := by rw [← hW3]; exact (Only.refl (fun b => b = w.heap.size + 1) W2).set (p := ⟨w.heap.size + 1, 0, none⟩) rfl _
          have hf3 : One W3 (w.heap.size + 1) 3 (.int .i64 (fuel - (k : Int) - 1)) := by rw [← hW3]; exact Hf2.out.set _
          have hF3 := HF2.out.only (hO3.mono (fun b hb => by unfold SX; omega)) hgw HOB.out
          have hbag3 := Hbag.out.only hO3 (by omega)
          obtain ⟨W4, hW4⟩ : ∃ W4, W3.setCells gb 0 (List.replicate n (.int .i64 0)) = W4 := ⟨_, rfl⟩
          have hO4 : Only (fun b => b = gb) W3 W4 := by rw [← hW4]; exact clear_only W3 gb 0 _ 0 W3
          have hbag4 : BlkC W4 gb 3 (bagL n (fun _ => 0)) := by
            have h9 := clear_blk hbag3
            rw [HL.out, hW4] at h9
            exact h9
          have hF4 := hF3.only (hO4.mono (fun b hb => by unfold SX; omega)) hgw HOB.out
          have hclear : ∀ ty, (Builtin.clear_ #[22] ty #[.slice (some ⟨gb, 0, none⟩) n n]).run Tryz.prog W3 = .ok (.tuple #[]) W4 := fun ty => by
            rw [← hW4]
            exact Lib.run_clear_slice W3 22 3 ty (.int .i64 0) Tryz.underlying22 zeroZ rfl rfl gb 0 n n (by omega) (fun j hj => by rw [Nat.zero_add, hbag3.cell, List.getElem?_eq_getElem (by rw [HL.out]; exact hj)]; rfl) (fun j hj => hbag3.frozen _)
          have HO34 := Lib.hid ((hO3.mono (fun b hb => .inl hb)).trans (hO4.mono (fun b hb => .inr hb)) : Only (fun b => b = w.heap.size + 1 ∨ b = gb) W2 W4)
          have HF4 := Lib.hid hF4
          have Hf4 := Lib.hid (hO4.one hf3 (by omega))
          have Hbag4 := Lib.hid hbag4
          have m0' := hF3.bagb.cell
          have n0 := hF4.cb.c0
          have n1 := hF4.cb.c1
          have n2 := hF4.cb.c2
          have n3 := hF4.cb.c3
          have nb := hF4.bagb.cell
          have Hv4 : Hid (W4.ownsRow (gb + 9) 3 1 (.slice va s.length vc) s.length (s.map natV)) := Lib.hid (HO34.out.own HV2.out (fun b hb => by have := (HV2.out.lt b hb).1; omega))
          have hsm := seqs_mem (List.mem_of_getElem? Hk.out)
          have Hsin := Lib.hid (fun i (hi : i ∈ s) => HUR.out i (hsm.2.2.1 i hi))
          have hsl : s.length ≤ 8 := by omega
          have hs1 : 1 ≤ s.length := hsm.2.1
          clear hO3 hf3 hF3 hbag3 hO4 hbag4 hF4 m0 m1 m2 m3 mb hW4 hsm
          repeat (first | go_values | gi_guarded | gi_step | gi_upon)
          clear hclear hW3 m0' n0 n1 n2 n3 nb
          have hpf := perform_nil _ _ _ c s gb w W4 HC.out HF.out.good (fun W' ho => nats_of_own (ho.own Hv4.out (fun b hb => by have := (Hv4.out.lt b hb).1; omega))) HF4.out.bel (by omega) Hsin.out (by omega) (by rw [Hn.out]; exact Hbag4.out)
          rw [Hn.out] at hpf
          refine ⟨trivial, callsRound (hpf.mono ?_)⟩
          clear hpf
          rintro e W5 ⟨⟨rv, rfl⟩, hb5, ho5⟩
          simp only []
          have hF5 := HF4.out.only (ho5.mono (fun b hb => by unfold SX; omega)) hgw HOB.out
          have HF5 := Lib.hid hF5
          have Hb5 := Lib.hid hb5
          have HO5 := Lib.hid (HO34.out.trans (ho5.mono (fun b hb => .inr hb)))
          have Hf5 := Lib.hid (ho5.one Hf4.out (by omega))
          have Hv5 := Lib.hid (ho5.own Hv4.out (fun b hb => by have := (Hv4.out.lt b hb).1; omega))
          have HNL : Hid (netL c s = (List.range n).map (fun i => netF i (rsOf c s))) := Lib.hid (by unfold netL; rw [Hn.out])
          have n0 := hF5.cb.c0
          have n1 := hF5.cb.c1
          have n2 := hF5.cb.c2
          have n3 := hF5.cb.c3
          have nb := hF5.bagb.cell
          clear hF5 hb5 ho5
          repeat (first | go_values | gi_guarded | gi_step | gi_upon)
          have hgn := gains_any _ _ W5 (ints_of_bag Hb5.out (by omega))
          rw [← HNL.out] at hgn
          cases hgs : gainS c s with
          | false =>
            have hgs' : gainsB (netL c s) = false := hgs
            rw [hgs'] at hgn
            refine ⟨trivial, callsRound (hgn.mono ?_)⟩
            clear hgn
            rintro e w' ⟨rfl, rfl⟩
            simp only []
            repeat (first | go_values | gi_guarded | gi_step | gi_upon)
            clear n0 n1 n2 n3 nb mf mff mlt
            have hlX : w'.heap[gb + 5]? = some (.loop (rec .busy none)) := (HO5.out.block _ (by have := HO2.out.size; have := Hlt5.out; omega) (by omega)).trans Hl2.out
            refine ⟨hlX, ?_⟩
            have hOY := only_putObj w' (gb + 5) (.loop (rec .ready none))
            have hrY : (w'.putObj (gb + 5) (.loop (rec .ready none))).heap[gb + 5]? = some (.loop (rec .ready none)) := World.putObj_heap_same (Array.getElem?_eq_some_iff.1 hlX).1
            obtain ⟨Y, hY⟩ : ∃ Y, w'.putObj (gb + 5) (.loop (rec .ready none)) = Y := ⟨_, rfl⟩
            rw [hY] at hOY hrY ⊢
            have hS1 : Only (fun b => (b = w.heap.size + 1 ∨ b = gb) ∨ b = gb + 5) W Y := ((HO2.out.mono (fun b hb => .inr hb)).trans (HO5.out.mono (fun b hb => .inl hb))).trans (hOY.mono (fun b hb => .inr hb))
            refine ⟨.inl ⟨rfl, HJ.out.on.trans (hS1.mono (fun b hb => by unfold SX; omega)), Nat.le_trans Hsz.out hS1.size, hrY, ?_, ⟨_, bagL_len _ _, Hb5.out.only hOY (by omega)⟩, HJ.out.r1.only hS1 (by omega), hS1.one HJ.out.r2 (by omega), hS1.one HJ.out.r3 (by omega), fun q t hq ht => ?_, .inr (by omega)⟩, keepsUp_of hS1 (fun b hb => by omega)⟩
            · have h9 := hOY.one Hf5.out (by omega)
              rw [show fuel - ((k + 1 : Nat) : Int) = fuel - (k : Int) - 1 by omega]
              exact h9
            · rcases Nat.lt_or_ge q k with h | h
              · exact HJ.out.no q t h ht
              · obtain rfl : q = k := by omega
                rw [Hk.out] at ht
                injection ht with ht
                rw [← ht]
                exact hgs
          | true =>
            have hgs' : gainsB (netL c s) = true := hgs
            rw [hgs'] at hgn
            have hmk := run_makeZ n (by omega)
            refine ⟨trivial, callsRound (hgn.mono ?_)⟩
            clear hgn
            rintro e w' ⟨rfl, rfl⟩
            simp only []
            have nlt := HF5.out.cb.lt
            repeat (first | go_values | gi_guarded | gi_step | gi_upon)
            clear n0 n1 n2 n3 nb nlt mf mff mlt
            obtain ⟨g2, hg2⟩ : ∃ g2, w'.heap.size = g2 := ⟨_, rfl⟩
            obtain ⟨W6, hW6⟩ : ∃ W6, w'.alloc (.cells (bagL n (fun _ => 0)).toArray 3) = W6 := ⟨_, rfl⟩
            have hB6 : Below w'.heap.size w' W6 := by rw [← hW6]; exact (Below.refl _ _).alloc (Nat.le_refl _) _
            have Hk6 : Hid (BlkC W6 g2 3 (bagL n (fun _ => 0))) := Lib.hid (by rw [← hW6, ← hg2]; exact BlkC.new _ _ _)
            have hO6 : Only (fun _ => False) w' W6 := Only.of_below hB6
            have HF6 := Lib.hid (HF5.out.only (hO6.mono (fun b hb => hb.elim)) hgw HOB.out)
            have Hb6 := Lib.hid (Hb5.out.only hO6 (fun h => h))
            have HO6 := Lib.hid (HO5.out.trans (hO6.mono (fun b hb => hb.elim)))
            have Hv6 := Lib.hid (hO6.own Hv5.out (fun _ _ h => h))
            have Hg2 := Lib.hid hg2
            have hg2l : gb + 9 ≤ g2 := by
              rcases Hv5.out.form (by omega) with ⟨g9, cap9, hv9, h91, h92⟩
              omega
            rw [hW6, hg2]
            have hz6 : g2 < W6.heap.size := Hk6.out.lt
            clear hW6 hB6 hO6 hg2 Hf5
            have n0 := HF6.out.cb.c0
            have n1 := HF6.out.cb.c1
            have n2 := HF6.out.cb.c2
            have n3 := HF6.out.cb.c3
            refine startRound 99 (fun x => x.cell? ⟨w.heap.size, 0, none⟩ = some (.slice ai n ci) ∧ x.cell? ⟨w.heap.size, 1, none⟩ = some (.slice ar c.rules.length cr) ∧ x.cell? ⟨w.heap.size, 2, none⟩ = some (.slice none 0 0) ∧ x.cell? ⟨w.heap.size, 3, none⟩ = some (.slice none 0 0)) (by kernel_rfl) (by kernel_rfl) (fun _ _ h => h) ⟨n0, n1, n2, n3⟩ (fun hHeld => ?_)
            refine takeK 0 73 (v := ?_) rfl rfl (by kernel_rfl) (by kernel_rfl) (by kernel_rfl) (by kernel_rfl) (fun _ _ _ h => h) (by rfl) ?_ (by assumption) ?_
            rotate_left
            · (intro w hSw; go_simp; first | done | with_reducible rfl)
            simp only [List.setIfInBounds_toArray, List.set_cons_zero, List.set_cons_succ]
            refine takeK 1 74 (v := ?_) rfl rfl (by kernel_rfl) (by kernel_rfl) (by kernel_rfl) (by kernel_rfl) (fun _ _ _ h => h) (by rfl) ?_ (by assumption) ?_
            rotate_left
            · (intro w hSw; go_simp; first | done | with_reducible rfl)
            simp only [List.setIfInBounds_toArray, List.set_cons_zero, List.set_cons_succ]
            refine takeK 2 75 (v := ?_) rfl rfl (by kernel_rfl) (by kernel_rfl) (by kernel_rfl) (by kernel_rfl) (fun _ _ _ h => h) (by rfl) ?_ (by assumption) ?_
            rotate_left
            · (intro w hSw; go_simp; first | done | with_reducible rfl)
            simp only [List.setIfInBounds_toArray, List.set_cons_zero, List.set_cons_succ]
            refine takeK 3 76 (v := ?_) rfl rfl (by kernel_rfl) (by kernel_rfl) (by kernel_rfl) (by kernel_rfl) (fun _ _ _ h => h) (by rfl) ?_ (by assumption) ?_
            rotate_left
            · (intro w hSw; go_simp; first | done | with_reducible rfl)
            simp only [List.setIfInBounds_toArray, List.set_cons_zero, List.set_cons_succ]
            refine takeK 4 77 (v := ?_) rfl rfl (by kernel_rfl) (by kernel_rfl) (by kernel_rfl) (by kernel_rfl) (fun _ _ _ h => h) (by rfl) ?_ (by assumption) ?_
            rotate_left
            · (intro w hSw; go_simp; first | done | with_reducible rfl)
            simp only [List.setIfInBounds_toArray, List.set_cons_zero, List.set_cons_succ]
            refine takeK 6 79 (v := ?_) rfl rfl (by kernel_rfl) (by kernel_rfl) (by kernel_rfl) (by kernel_rfl) (fun _ _ _ h => h) (by rfl) ?_ (by assumption) ?_
            rotate_left
            · (intro w hSw; go_simp; first | done | with_reducible rfl)
            simp only [List.setIfInBounds_toArray, List.set_cons_zero, List.set_cons_succ]
            refine stepK 5 (by kernel_rfl) rfl (fun K hK => ?_)
            go_simp
            obtain ⟨g3, hg3⟩ : ∃ g3, W6.heap.size = g3 := ⟨_, rfl⟩
            obtain ⟨W7, hW7⟩ : ∃ W7, (W6.alloc (.cells (bagL n (fun _ => 0)).toArray 3)).drew = W7 := ⟨_, rfl⟩
            have hB7 : Below W6.heap.size W6 W7 := by rw [← hW7]; exact ((Below.refl _ _).alloc (Nat.le_refl _) _).drew
            have Hk7 : Hid (BlkC W7 g3 3 (bagL n (fun _ => 0))) := Lib.hid (by rw [← hW7, ← hg3]; exact (BlkC.new _ _ _).drew)
            have hO7 : Only (fun _ => False) W6 W7 := Only.of_below hB7
            have HF7 := Lib.hid (HF6.out.only (hO7.mono (fun b hb => hb.elim)) hgw HOB.out)
            have Hb7 := Lib.hid (Hb6.out.only hO7 (fun h => h))
            have HO7 := Lib.hid (HO6.out.trans (hO7.mono (fun b hb => hb.elim)))
            have Hv7 := Lib.hid (hO7.own Hv6.out (fun _ _ h => h))
            have Hn7 := Lib.hid (Hk6.out.only hO7 (fun h => h))
            try rw [hg3]
            rw [hW7]
            have hg23 : g2 < g3 := by omega
            clear hW7 hB7 hO7 hg3 hHeld n0 n1 n2 n3 hmk HF6 Hb6 HO6 Hv6 Hk6 hz6
            go_wp2_with fail
            refine hK.out _ _ (⟨HF7.out.cb.c0, HF7.out.cb.c1, HF7.out.cb.c2, HF7.out.cb.c3⟩) (fun hHeld => ?_)
            clear hK K
            try simp only [Act.put, List.setIfInBounds_toArray, List.set_cons_zero, List.set_cons_succ]
            have hpf := perform_need _ _ _ c s g3 g2 w W7 HC.out HF.out.good (fun W' ho => nats_of_own (ho.own Hv7.out (fun b hb => by have := Hv7.out.lt b hb; have hx := Hv5.out.lt b hb; have hy := Hg2.out; omega))) HF7.out.bel (by omega) Hsin.out (by omega) (by rw [Hn.out]; exact Hk7.out) (by omega) (by omega) (by rw [Hn.out]; exact Hn7.out)
            rw [Hn.out] at hpf
            refine stepK 7 (by kernel_rfl) rfl (fun K hK => ?_)
            go_simp
            refine hpf.mono ?_
            clear hpf
            rintro e W8 ⟨⟨rv2, rfl⟩, -, hn8, ho8⟩
            have hvb : ∀ b, (Value.slice va s.length vc).ownBlock = some b → b < g2 := fun b hb => by have hx := (Hv5.out.lt b hb).2; have hy := Hg2.out; omega
            have HF8 := Lib.hid (HF7.out.only (ho8.mono (fun b hb => by unfold SX; omega)) hgw HOB.out)
            have Hb8 := Lib.hid (Hb7.out.only ho8 (by omega))
            have Hn8 := Lib.hid hn8
            have HO8 : Hid (Only (fun b => b = w.heap.size + 1 ∨ b = gb ∨ g2 ≤ b) W2 W8) := Lib.hid ((HO7.out.mono (fun b hb => by omega)).trans (ho8.mono (fun b hb => by omega)))
            have Hv8 := Lib.hid (ho8.own Hv7.out (fun b hb => by have := hvb b hb; omega))
            clear hn8 ho8 hvb hHeld HF7 Hb7 HO7 Hv7 Hk7 Hn7
            go_wp2_with fail
            refine hK.out _ _ (⟨HF8.out.cb.c0, HF8.out.cb.c1, HF8.out.cb.c2, HF8.out.cb.c3⟩) (fun hHeld => ?_)
            clear hK K
            try simp only [Act.put, List.setIfInBounds_toArray, List.set_cons_zero, List.set_cons_succ]
            refine doneK (by kernel_rfl) ?_ _
            clear hHeld
            repeat (first | go_values | gi_guarded | gi_step | gi_upon)
            have Hr18 := Lib.hid (Hr1.out.only HO8.out (by omega))
            have Hr28 := Lib.hid (HO8.out.one Hr2.out (by omega))
            have Hr38 := Lib.hid (HO8.out.one Hr3.out (by omega))
            have Hl8 : Hid (W8.heap[gb + 5]? = some (.loop (rec .busy none))) := Lib.hid ((HO8.out.block _ (by have := HO2.out.size; have := Hlt5.out; omega) (by omega)).trans Hl2.out)
            have nb := HF8.out.bagb.cell
            refine startRound 99 (fun x => x.cell? ⟨gb + 1, 0, none⟩ = some (.slice (some ⟨gb, 0, none⟩) n n)) (by kernel_rfl) (by kernel_rfl) (fun _ _ h => h) nb (fun hHeld => ?_)
            refine takeK 0 81 (v := ?_) rfl rfl (by kernel_rfl) (by kernel_rfl) (by kernel_rfl) (by kernel_rfl) (fun _ _ _ h => h) (by rfl) ?_ (by assumption) ?_
            rotate_left
            · (intro w hSw; go_simp; first | done | with_reducible rfl)
            simp only [List.setIfInBounds_toArray, List.set_cons_zero, List.set_cons_succ]
            refine takeK 2 83 (v := ?_) rfl rfl (by kernel_rfl) (by kernel_rfl) (by kernel_rfl) (by kernel_rfl) (fun _ _ _ h => h) (by rfl) ?_ (by assumption) ?_
            rotate_left
            · (intro w hSw; go_simp; first | done | with_reducible rfl)
            simp only [List.setIfInBounds_toArray, List.set_cons_zero, List.set_cons_succ]
            refine takeK 3 84 (v := ?_) rfl rfl (by kernel_rfl) (by kernel_rfl) (by kernel_rfl) (by kernel_rfl) (fun _ _ _ h => h) (by rfl) ?_ (by assumption) ?_
            rotate_left
            · (intro w hSw; go_simp; first | done | with_reducible rfl)
            simp only [List.setIfInBounds_toArray, List.set_cons_zero, List.set_cons_succ]
            have hcl := clone_any _ s W8.drew (nats_of_own (show W8.drew.ownsRow _ _ _ _ _ _ from Hv8.out)) (by omega) (by omega)
            refine stepK 1 (by kernel_rfl) rfl (fun K hK => ?_)
            go_simp
            refine hcl.mono ?_
            clear hcl
            rintro e W9 ⟨⟨v9, rfl, hv9⟩, hB9⟩
            have hB9' : Below W8.heap.size W8 W9 := ⟨hB9.os, hB9.tape, hB9.output, hB9.size, hB9.block⟩
            have hO9 : Only (fun _ => False) W8 W9 := Only.of_below hB9'
            have HF9 := Lib.hid (HF8.out.only (hO9.mono (fun b hb => hb.elim)) hgw HOB.out)
            have Hb9 := Lib.hid (Hb8.out.only hO9 (fun h => h))
            have Hn9 := Lib.hid (Hn8.out.only hO9 (fun h => h))
            have HO9 := Lib.hid (HO8.out.trans (hO9.mono (fun b hb => hb.elim)))
            have Hr19 := Lib.hid (Hr18.out.only hO9 (fun h => h))
            have Hr29 := Lib.hid (hO9.one Hr28.out (fun h => h))
            have Hr39 := Lib.hid (hO9.one Hr38.out (fun h => h))
            have Hl9 : Hid (W9.heap[gb + 5]? = some (.loop (rec .busy none))) := Lib.hid ((hO9.block _ (Array.getElem?_eq_some_iff.1 Hl8.out).1 (fun h => h)).trans Hl8.out)
            obtain ⟨g9, c9, hv9f, -⟩ := hv9.form (by omega)
            subst hv9f
            have h8n : gb + 9 ≤ W8.heap.size := by have := Hn8.out.lt; omega
            have Hv9 : Hid (W9.ownsRow (gb + 9) 3 1 (.slice (some ⟨g9, 0, none⟩) s.length c9) s.length (s.map natV)) := Lib.hid (ownsRow_base (base := W8.heap.size) h8n (show W9.ownsRow W8.heap.size 3 1 _ s.length (s.map natV) from hv9))
            clear hv9 hB9 hB9' hO9 nb HF8 Hb8 Hn8 HO8 Hr18 Hr28 Hr38 Hl8 hHeld Hv8
            go_wp2_with fail
            refine hK.out _ _ (HF9.out.bagb.cell) (fun hHeld => ?_)
            clear hK K
            try simp only [Act.put, List.setIfInBounds_toArray, List.set_cons_zero, List.set_cons_succ]
            refine takeK 4 85 (v := ?_) rfl rfl (by kernel_rfl) (by kernel_rfl) (by kernel_rfl) (by kernel_rfl) (fun _ _ _ h => h) (by rfl) ?_ (by assumption) ?_
            rotate_left
            · (intro w hSw; go_simp; first | done | with_reducible rfl)
            simp only [List.setIfInBounds_toArray, List.set_cons_zero, List.set_cons_succ]
            have p0 := Hr19.out.cell 0
            have p1 := Hr19.out.cell 1
            have p2 := Hr19.out.cell 2
            have g0 := Hr19.out.frozen 0
            have g1 := Hr19.out.frozen 1
            have g2' := Hr19.out.frozen 2
            have p3 := Hr29.out.cell
            have g3' := Hr29.out.frozen
            have p4 := Hr39.out.cell
            have g4 := Hr39.out.frozen
            simp only [List.getElem?_cons_zero, List.getElem?_cons_succ, nilS] at p0 p1 p2
            refine stepK 5 (by kernel_rfl) rfl (fun K hK => ?_)
            go_simp
            obtain ⟨X1, hX1⟩ : ∃ X1, ((W9.setCell ⟨w.heap.size + 2, 0, none⟩ (.slice (some ⟨g9, 0, none⟩) s.length c9)).setCell ⟨w.heap.size + 2, 1, none⟩ (.slice (some ⟨g2, 0, none⟩) n n)).setCell ⟨w.heap.size + 2, 2, none⟩ (.slice (some ⟨gb, 0, none⟩) n n) = X1 := ⟨_, rfl⟩
            have hOX1 : Only (fun b => b = w.heap.size + 2) W9 X1 := by
              rw [← hX1]
              exact (((Only.refl (fun b => b = w.heap.size + 2) W9).set (p := ⟨w.heap.size + 2, 0, none⟩) rfl _).set (p := ⟨w.heap.size + 2, 1, none⟩) rfl _).set (p := ⟨w.heap.size + 2, 2, none⟩) rfl _
            have Hx1 : Hid (BlkC X1 (w.heap.size + 2) 42 [.slice (some ⟨g9, 0, none⟩) s.length c9, .slice (some ⟨g2, 0, none⟩) n n, .slice (some ⟨gb, 0, none⟩) n n]) := Lib.hid (by
              rw [← hX1]
              exact ((Hr19.out.set 0 _).set 1 _).set 2 _)
            have HOX1 := Lib.hid hOX1
            have e2 := hOX1.one Hr29.out (by omega)
            have e3 := hOX1.one Hr39.out (by omega)
            have He2 := Lib.hid e2
            have He3 := Lib.hid e3
            have HFX1 := Lib.hid (HF9.out.only (hOX1.mono (fun b hb => by unfold SX; omega)) hgw HOB.out)
            rw [hX1]
            clear hX1 hOX1 e2 e3 p0 p1 p2 g0 g1 g2' p3 g3' p4 g4 hHeld
            go_wp2_with fail
            refine hK.out _ _ (HFX1.out.bagb.cell) (fun hHeld => ?_)
            clear hK K
            try simp only [Act.put, List.setIfInBounds_toArray, List.set_cons_zero, List.set_cons_succ]
            have p3 := He2.out.cell
            have g3' := He2.out.frozen
            refine stepK 6 (by kernel_rfl) rfl (fun K hK => ?_)
            go_simp
            obtain ⟨X2, hX2⟩ : ∃ X2, X1.setCell ⟨w.heap.size + 3, 0, none⟩ (.bool true) = X2 := ⟨_, rfl⟩
            have hOX2 : Only (fun b => b = w.heap.size + 3) X1 X2 := by rw [← hX2]; exact (Only.refl (fun b => b = w.heap.size + 3) X1).set (p := ⟨w.heap.size + 3, 0, none⟩) rfl _
            have Hx2 : Hid (One X2 (w.heap.size + 3) 4 (.bool true)) := Lib.hid (by rw [← hX2]; exact He2.out.set _)
            have HOX2 := Lib.hid hOX2
            have He3' := Lib.hid (hOX2.one He3.out (by omega))
            have HFX2 := Lib.hid (HFX1.out.only (hOX2.mono (fun b hb => by unfold SX; omega)) hgw HOB.out)
            rw [hX2]
            clear hX2 hOX2 p3 g3' hHeld
            go_wp2_with fail
            refine hK.out _ _ (HFX2.out.bagb.cell) (fun hHeld => ?_)
            clear hK K
            try simp only [Act.put, List.setIfInBounds_toArray, List.set_cons_zero, List.set_cons_succ]
            have p4 := He3'.out.cell
            have g4 := He3'.out.frozen
            refine stepK 7 (by kernel_rfl) rfl (fun K hK => ?_)
            go_simp
            obtain ⟨X3, hX3⟩ : ∃ X3, X2.setCell ⟨w.heap.size + 4, 0, none⟩ (.int .i64 0) = X3 := ⟨_, rfl⟩
            have hOX3 : Only (fun b => b = w.heap.size + 4) X2 X3 := by rw [← hX3]; exact (Only.refl (fun b => b = w.heap.size + 4) X2).set (p := ⟨w.heap.size + 4, 0, none⟩) rfl _
            have Hx3 : Hid (One X3 (w.heap.size + 4) 33 (.int .i64 0)) := Lib.hid (by rw [← hX3]; exact He3'.out.set _)
            have HOX3 := Lib.hid hOX3
            have HFX3 := Lib.hid (HFX2.out.only (hOX3.mono (fun b hb => by unfold SX; omega)) hgw HOB.out)
            rw [hX3]
            clear hX3 hOX3 p4 g4 hHeld
            go_wp2_with fail
            refine hK.out _ _ (HFX3.out.bagb.cell) (fun hHeld => ?_)
            clear hK K
            try simp only [Act.put, List.setIfInBounds_toArray, List.set_cons_zero, List.set_cons_succ]
            refine doneK (by kernel_rfl) ?_ _
            clear hHeld
            repeat (first | go_values | gi_guarded | gi_step | gi_upon)
            have hOXa : Only (fun b => w.heap.size + 2 ≤ b ∧ b ≤ w.heap.size + 4) W9 X3 := ((HOX1.out.mono (fun b hb => by omega)).trans (HOX2.out.mono (fun b hb => by omega))).trans (HOX3.out.mono (fun b hb => by omega))
            have hlX : X3.heap[gb + 5]? = some (.loop (rec .busy none)) := (hOXa.block _ (Array.getElem?_eq_some_iff.1 Hl9.out).1 (by omega)).trans Hl9.out
            refine ⟨hlX, ?_⟩
            have hOY := only_putObj X3 (gb + 5) (.loop (rec .done (some .ret)))
            have hrY : (X3.putObj (gb + 5) (.loop (rec .done (some .ret)))).heap[gb + 5]? = some (.loop (rec .done (some .ret))) := World.putObj_heap_same (Array.getElem?_eq_some_iff.1 hlX).1
            obtain ⟨Y, hY⟩ : ∃ Y, X3.putObj (gb + 5) (.loop (rec .done (some .ret))) = Y := ⟨_, rfl⟩
            rw [hY] at hOY hrY ⊢
            have hOXY : Only (fun b => (w.heap.size + 2 ≤ b ∧ b ≤ w.heap.size + 4) ∨ b = gb + 5) W9 Y := (hOXa.mono (fun b hb => .inl hb)).trans (hOY.mono (fun b hb => .inr hb))
            have hS1 : Only (fun b => (b = w.heap.size + 1 ∨ b = gb ∨ g2 ≤ b) ∨ (w.heap.size + 2 ≤ b ∧ b ≤ w.heap.size + 4) ∨ b = gb + 5) W Y := ((HO2.out.mono (fun b hb => .inr (.inr hb))).trans (HO9.out.mono (fun b hb => .inl hb))).trans (hOXY.mono (fun b hb => .inr hb))
            have hgW : W.heap.size ≤ g2 := by have h1 := HO2.out.size; have h2 := HO5.out.size; have h3 := Hg2.out; omega
            refine ⟨.inr ⟨rfl, HJ.out.on.trans (hS1.mono (fun b hb => by unfold SX; omega)), Nat.le_trans Hsz.out hS1.size, hrY, _, _, _, true, 0, ((Hx1.out.only HOX2.out (by omega)).only HOX3.out (by omega)).only hOY (by omega), hOY.one (HOX3.out.one Hx2.out (by omega)) (by omega), hOY.one Hx3.out (by omega), .inr ⟨s, g2, HSC.out.2 (by omega) hgs, rfl, rfl, hOXY.own Hv9.out (fun b hb => by have := (Hv9.out.lt b hb).1; omega), hg2l, rfl, Hn9.out.only hOXY (by omega), rfl, Hb9.out.only hOXY (by omega)⟩⟩, hS1.size, fun b hb hl => hS1.block b hl (by omega)⟩
      have hE : Env (gb + 6) (gb + 5) (gb + 2) (gb + 3) ga gc U most (FJ w Wb c U most fuel gb n rec) (FX w Wb c U most fuel gb n rec) := by
        refine ⟨fun k W W' h hb => h.below hb hgw, fun W W' h ho => h.only ho hgw, fun k W h => ?_, by omega, ⟨h16, hgl, hgc, fun i hi => by have := HUR.out i hi; omega, hm8⟩, fun b o hb => ?_, hY⟩
        · have hf := HFB.out.only h.on hgw HOB.out
          exact ⟨h.sz, hf.ib.cell, nats_of_own hf.own, hf.mb.cell⟩
        · have := HOB.out b (by rw [hb]; rfl)
          omega
      have hsq := seq1_any (J := FJ w Wb c U most fuel gb n rec) (Jx := FX w Wb c U most fuel gb n rec) (l := gb + 5) (bi := gb + 2) (bm := gb + 3) Wb (by rw [HB6.out]; exact hE) HFJ.out
      refine (callsIn_wide.2 (by simpa using hsq)).mono ?_
      clear hsq hE hY HFJ
      rintro e W3 ⟨hv, hE⟩
      refine ⟨hv, ?_⟩
      clear hv hrec
      have Hgb := Lib.hid hgb
      have Hn := Lib.hid hn
      clear hgb hn
      rcases hE with hE | hE
      · refine .inl ⟨hE.rd, ?_⟩
        have HSN := Lib.hid (scan_end (g := gainS c) (seqs U most) fuel hE.no hE.le)
        have hO4 := only_putObj W3 (gb + 5) (.loop (rec .exhausted none))
        obtain ⟨W4, hW4⟩ : ∃ W4, W3.putObj (gb + 5) (.loop (rec .exhausted none)) = W4 := ⟨_, rfl⟩
        rw [hW4] at hO4 ⊢
        have HO4 := Lib.hid (hE.on.trans (hO4.mono (fun b hb => by unfold SX; omega)))
        have HF4 := Lib.hid (HFB.out.only HO4.out hgw HOB.out)
        have Hr1 := Lib.hid (hE.r1.only hO4 (by omega))
        have Hr2 := Lib.hid (hO4.one hE.r2 (by omega))
        have Hr3 := Lib.hid (hO4.one hE.r3 (by omega))
        have p0 := Hr1.out.cell 0
        have p1 := Hr1.out.cell 1
        have p2 := Hr1.out.cell 2
        have g0 := Hr1.out.frozen 0
        have g1 := Hr1.out.frozen 1
        have g2 := Hr1.out.frozen 2
        have p3 := Hr2.out.cell
        have g3 := Hr2.out.frozen
        have p4 := Hr3.out.cell
        have g4 := Hr3.out.frozen
        simp only [List.getElem?_cons_zero, List.getElem?_cons_succ, nilS] at p0 p1 p2
        clear hW4 hO4 hE
        simp only [Exit.inBlock, Exit.then]
        repeat (first | go_values | go_step)
        clear p0 p1 p2 p3 p4 g0 g1 g2 g3 g4
        obtain ⟨X, hX⟩ : ∃ X, (((((W4.setCell ⟨w.heap.size + 2, 0, none⟩ (.slice none 0 0)).setCell ⟨w.heap.size + 2, 1, none⟩ (.slice none 0 0)).setCell ⟨w.heap.size + 2, 2, none⟩ (.slice none 0 0)).setCell ⟨w.heap.size + 3, 0, none⟩ (.bool false)).setCell ⟨w.heap.size + 4, 0, none⟩ (.int .i64 0)) = X := ⟨_, rfl⟩
        rw [hX]
        have hOX : Only (fun b => w.heap.size + 2 ≤ b ∧ b ≤ w.heap.size + 4) W4 X := by
          rw [← hX]
          exact ((((((Only.refl _ W4).set (p := ⟨w.heap.size + 2, 0, none⟩) (by simp) _).set (p := ⟨w.heap.size + 2, 1, none⟩) (by simp) _).set (p := ⟨w.heap.size + 2, 2, none⟩) (by simp) _).set (p := ⟨w.heap.size + 3, 0, none⟩) (by simp) _).set (p := ⟨w.heap.size + 4, 0, none⟩) (by simp) _)
        have hX1 : BlkC X (w.heap.size + 2) 42 [nilS, nilS, nilS] := by
          rw [← hX]
          exact ((((Hr1.out.set 0 _).set 1 _).set 2 _).far (p := ⟨w.heap.size + 3, 0, none⟩) (show w.heap.size + 2 ≠ w.heap.size + 3 by omega) _).far (p := ⟨w.heap.size + 4, 0, none⟩) (show w.heap.size + 2 ≠ w.heap.size + 4 by omega) _
        have hX2 : One X (w.heap.size + 3) 4 (.bool false) := by
          rw [← hX]
          exact ((((Hr2.out.far (p := ⟨w.heap.size + 2, 0, none⟩) (show w.heap.size + 3 ≠ w.heap.size + 2 by omega) _).far (p := ⟨w.heap.size + 2, 1, none⟩) (show w.heap.size + 3 ≠ w.heap.size + 2 by omega) _).far (p := ⟨w.heap.size + 2, 2, none⟩) (show w.heap.size + 3 ≠ w.heap.size + 2 by omega) _).set _).far (p := ⟨w.heap.size + 4, 0, none⟩) (show w.heap.size + 3 ≠ w.heap.size + 4 by omega) _
        have hX3 : One X (w.heap.size + 4) 33 (.int .i64 0) := by
          rw [← hX]
          exact ((((Hr3.out.far (p := ⟨w.heap.size + 2, 0, none⟩) (show w.heap.size + 4 ≠ w.heap.size + 2 by omega) _).far (p := ⟨w.heap.size + 2, 1, none⟩) (show w.heap.size + 4 ≠ w.heap.size + 2 by omega) _).far (p := ⟨w.heap.size + 2, 2, none⟩) (show w.heap.size + 4 ≠ w.heap.size + 2 by omega) _).far (p := ⟨w.heap.size + 3, 0, none⟩) (show w.heap.size + 4 ≠ w.heap.size + 3 by omega) _).set _
        have HFX := Lib.hid (HF4.out.only (hOX.mono (fun b hb => by unfold SX; omega)) hgw HOB.out)
        refine ⟨by simp, .inl ⟨_, _, rfl, run_takeDeferred HFX.out.hD, ?_⟩⟩
        have hO5 := only_putObj X (gb + 4) (.deferred none)
        obtain ⟨Y, hY⟩ : ∃ Y, X.putObj (gb + 4) (.deferred none) = Y := ⟨_, rfl⟩
        rw [hY] at hO5 ⊢
        have y1 := hX1.only hO5 (by omega)
        have y2 := hO5.one hX2 (by omega)
        have y3 := hO5.one hX3 (by omega)
        have d0 := y1.cell 0
        have d1 := y1.cell 1
        have d2 := y1.cell 2
        have d3 := y2.cell
        have d4 := y3.cell
        simp only [List.getElem?_cons_zero, List.getElem?_cons_succ] at d0 d1 d2
        have hBY : Below w.heap.size w Y := hO5.below HFX.out.bel HFX.out.bel.size (fun k hk => by omega)
        refine ⟨.tuple #[.agg #[nilS, nilS, nilS], .bool false, .int .i64 0], by simp [results, Tryz.results18, go_sem, d0, d1, d2, d3, d4], hBY, nilS, nilS, nilS, false, 0, rfl, ?_⟩
        rw [HSN.out]
        exact ⟨rfl, rfl, rfl, rfl, rfl⟩
      · refine .inr ⟨hE.rd, ?_⟩
        have hO4 := only_putObj W3 (gb + 5) (.loop (rec .exhausted (some .ret)))
        obtain ⟨W4, hW4⟩ : ∃ W4, W3.putObj (gb + 5) (.loop (rec .exhausted (some .ret))) = W4 := ⟨_, rfl⟩
        rw [hW4] at hO4 ⊢
        have HO4 := Lib.hid (hE.on.trans (hO4.mono (fun b hb => by unfold SX; omega)))
        have HF4 := Lib.hid (HFB.out.only HO4.out hgw HOB.out)
        simp only [Exit.inBlock, Exit.then]
        refine ⟨by simp, .inl ⟨_, _, rfl, run_takeDeferred HF4.out.hD, ?_⟩⟩
        have hO5 := only_putObj W4 (gb + 4) (.deferred none)
        obtain ⟨Y, hY⟩ : ∃ Y, W4.putObj (gb + 4) (.deferred none) = Y := ⟨_, rfl⟩
        rw [hY] at hO5 ⊢
        obtain ⟨v1, v2, v3, b, er, h1, h2, h3, h4⟩ := hE.out
        have hOY : Only (fun b => b = gb + 5 ∨ b = gb + 4) W3 Y := (hO4.mono (fun b hb => .inl hb)).trans (hO5.mono (fun b hb => .inr hb))
        have y1 := h1.only hOY (by omega)
        have y2 := hOY.one h2 (by omega)
        have y3 := hOY.one h3 (by omega)
        have d0 := y1.cell 0
        have d1 := y1.cell 1
        have d2 := y1.cell 2
        have d3 := y2.cell
        have d4 := y3.cell
        simp only [List.getElem?_cons_zero, List.getElem?_cons_succ] at d0 d1 d2
        have hBY : Below w.heap.size w Y := hO5.below HF4.out.bel HF4.out.bel.size (fun k hk => by omega)
        refine ⟨.tuple #[.agg #[v1, v2, v3], .bool b, .int .i64 er], by simp [results, Tryz.results18, go_sem, d0, d1, d2, d3, d4], hBY, v1, v2, v3, b, er, rfl, ?_⟩
        rcases h4 with ⟨e1, rfl, rfl, rfl, rfl, rfl⟩ | ⟨s, g2, e1, rfl, rfl, e4, e5, rfl, e7, rfl, e9⟩
        · rw [e1]
          exact ⟨rfl, rfl, rfl, rfl, rfl⟩
        · rw [e1]
          refine ⟨rfl, rfl, nats_of_own (hOY.own e4 (fun b hb => by have := (e4.lt b hb).1; omega)), ?_, ?_⟩
          · unfold needL
            rw [Hn.out]
            exact ints_of_bag (e7.only hOY (by omega)) (by omega)
          · unfold netL
            rw [Hn.out]
            exact ints_of_bag (e9.only hOY (by omega)) (by omega)
end Go.Proofs.YtfpcgjgkbniofaaGreatDoor
