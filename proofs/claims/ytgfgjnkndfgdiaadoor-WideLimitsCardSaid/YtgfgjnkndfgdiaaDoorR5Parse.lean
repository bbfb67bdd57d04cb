/- the reference's integers: Parse. -/
import Derived.Test.YtgfgjnkndfgdiaaDoorR5Fits
import Derived.IntWalk
namespace Go.Proofs.YtgfgjnkndfgdiaaDoor
open Go.RowKit

def RParsePost (r : Except Int Int) (w : World) (e : Ending) (w' : World) : Prop :=
  Below w.heap.size w w' ∧ match r with
    | .ok z => ∃ v, e = .returned (.tuple #[v, .int .i64 0]) ∧ RInt w' v z ∧ z.natAbs < LIM
    | .error k => e = .returned (.tuple #[.agg #[.bool false, .slice none 0 0], .int .i64 k])

theorem parseS_neg (ds : Tx) (h : ¬ 5000 < ds.length + 1) : parseS (45 :: ds) = parseD true ds := by
  rw [parseS_cut (45 :: ds) h]
  rfl
theorem parseS_pos (c : UInt8) (t : Tx) (hc : c ≠ 45) (h : ¬ 5000 < t.length + 1) : parseS (c :: t) = parseD false (c :: t) := by
  rw [parseS_cut (c :: t) h]
  have e : Lib.hasPrefix (c :: t) [45] = false := by simp [Lib.hasPrefix, List.isPrefixOf, Ne.symm hc]
  unfold Lib.trimPrefix
  rw [e]
  rfl
theorem ext_one (c : UInt8) (ds : Tx) : (⟨(c :: ds).toArray⟩ : ByteArray).extract 1 (ds.length + 1) = ⟨ds.toArray⟩ := by
  rw [ba_sub, show ds.length + 1 = (c :: ds).length from rfl, List.take_length]
  rfl

def badHead (neg : Bool) (ds : Tx) : Prop := ds = [] ∨ (ds.head? = some 48 ∧ (neg = true ∨ 1 < ds.length))
theorem badHead.not {neg : Bool} {ds : Tx} (h : ¬ badHead neg ds) : ¬ (ds = [] ∨ (ds.head? = some 48 ∧ (neg = true ∨ 1 < ds.length))) := h

theorem take_drop_snoc (ds : Tx) (i j : Nat) (h : i < ds.length) (hj : j ≤ i) : (ds.take (i + 1)).drop j = (ds.take i).drop j ++ [ds[i]] := by
  rw [List.take_succ_eq_append_getElem h, List.drop_append_of_le_length (by rw [List.length_take]; omega)]

theorem dvT_len4 (ds : Tx) (k : Nat) (h : ∀ c ∈ ds, IsDig c) (hk : ds.length ≤ k) : (digs T4 (dvT 0 ds)).length ≤ k :=
  digs_len_le T4 t4_two k _ (Nat.lt_of_lt_of_le (dvT_small ds h k hk) (Nat.pow_le_pow_left (by decide) _))

theorem dvT_snoc (l : Tx) (c : UInt8) : dvT 0 (l ++ [c]) = 10 * dvT 0 l + (c.toNat - 48) := by
  rw [dvT_append]
  generalize dvT 0 l = x
  show 10 * x + (c.toNat - 48) = _
  rfl

/-- one more group of four digits, from the end -/
theorem grp4_step (ds : Tx) (acc : List Nat) (e j : Nat) (he : e ≤ ds.length) (hj : j = e - 4) (hv : dvT 0 (ds.take e) * T4 ^ acc.length + val T4 acc = dvT 0 ds) :
    dvT 0 (ds.take j) * T4 ^ (acc ++ [dvT 0 ((ds.take e).drop j)]).length + val T4 (acc ++ [dvT 0 ((ds.take e).drop j)]) = dvT 0 ds := by
  have h1 : ds.take e = ds.take j ++ (ds.take e).drop j := by
    conv => lhs; rw [← List.take_append_drop j (ds.take e), List.take_take, Nat.min_eq_left (by omega)]
  have h2 : dvT 0 (ds.take e) = dvT 0 (ds.take j) * 10 ^ ((ds.take e).drop j).length + dvT 0 ((ds.take e).drop j) := by
    conv => lhs; rw [h1, dvT_append, dvT_shift]
  have h3 : ((ds.take e).drop j).length = e - j := by rw [List.length_drop, List.length_take]; omega
  have h4 : dvT 0 (ds.take j) * 10 ^ ((ds.take e).drop j).length = dvT 0 (ds.take j) * T4 := by
    rw [h3]
    by_cases h : 4 ≤ e
    · rw [show e - j = 4 by omega]
    · have : j = 0 := by omega
      subst this
      show 0 * _ = 0 * _
      rw [Nat.zero_mul, Nat.zero_mul]
  rw [h2, h4] at hv
  rw [← hv, List.length_append, List.length_singleton, Nat.pow_succ, val_append]
  have h5 : val T4 [dvT 0 ((ds.take e).drop j)] = dvT 0 ((ds.take e).drop j) := by simp [val]
  rw [h5]
  generalize dvT 0 ((ds.take e).drop j) = g
  generalize dvT 0 (ds.take j) = m
  generalize T4 ^ acc.length = P
  generalize val T4 acc = a
  generalize T4 = B
  grind


set_option maxRecDepth 100000 in
set_option maxHeartbeats 4000000 in
theorem rparse_any (s : Tx) (w : World) (hs : s.length ≤ 9223372036854775807) : Calls Tryd.prog 17 #[sv s] w (RParsePost (parseS s) w) := by
  obtain ⟨i0, hi, hz0, hz1, hz2⟩ := info_parts infoInt
  have Hi := Lib.hid hi
  have Hz0 := Lib.hid hz0
  have Hz1 := Lib.hid hz1
  have Hz2 := Lib.hid hz2
  clear hi hz0 hz1 hz2
  by_cases hlong : 5000 < s.length
  · unfold parseS
    rw [if_pos hlong]
    unfold sv
    go_enter Tryd.func17, Tryd.ntmps17
    go_wp2
    refine bodyPost_ret (v := .tuple #[.agg #[.bool false, .slice none 0 0], .int .i64 4]) (by simp [results, Tryd.results17, go_sem]) rfl ⟨(Below.refl _ _).alloc (Nat.le_refl _) _, rfl⟩
  rcases s with _ | ⟨c, t⟩
  · have Hp : Hid (parseS [] = .error 2) := Lib.hid (by unfold parseS; simp)
    unfold sv
    go_enter Tryd.func17, Tryd.ntmps17
    go_wp2
    rw [Hp.out]
    refine bodyPost_ret (v := .tuple #[.agg #[.bool false, .slice none 0 0], .int .i64 2]) (by simp [results, Tryd.results17, go_sem]) rfl ⟨(Below.refl _ _).alloc (Nat.le_refl _) _, rfl⟩
  have hl5 : t.length ≤ 4999 := by rw [List.length_cons] at hlong; omega
  have hb0 : ∀ h2, (⟨(c :: t).toArray⟩ : ByteArray)[0]'h2 = c := fun _ => rfl
  by_cases hc : c = 45
  · subst hc
    rw [parseS_neg t (by omega)]
    unfold sv
    rcases t with _ | ⟨d, t⟩
    · have hx1 : (⟨([45] : Tx).toArray⟩ : ByteArray).extract 1 (0 + 1) = ⟨([] : Tx).toArray⟩ := ext_one 45 []
      have Hpd : Hid (parseD true [] = .error 2) := Lib.hid (by unfold parseD; simp)
      go_enter Tryd.func17, Tryd.ntmps17
      go_wp2
      rw [Hpd.out]
      refine bodyPost_ret (v := .tuple #[.agg #[.bool false, .slice none 0 0], .int .i64 2]) (by simp [results, Tryd.results17, go_sem]) rfl ⟨(Below.refl _ _).alloc (Nat.le_refl _) _, rfl⟩
    have hx1 : (⟨(45 :: d :: t).toArray⟩ : ByteArray).extract 1 (t.length + 1 + 1) = ⟨(d :: t).toArray⟩ := ext_one 45 (d :: t)
    have hl0 : ((t.length : Int) + 1 == 0) = false := by simp; omega
    have hl6 : t.length ≤ 4998 := by rw [List.length_cons] at hl5; omega
    have hbd : ∀ h2, (⟨(d :: t).toArray⟩ : ByteArray)[0]'h2 = d := fun _ => rfl
    by_cases hd : d = 48
    · have hcn : (d.toNat : Int) = 48 := by rw [hd]; rfl
      have Hpd : Hid (parseD true (d :: t) = .error 2) := Lib.hid (by unfold parseD; rw [if_pos (.inr ⟨by rw [hd]; rfl, .inl rfl⟩)])
      clear hd
      go_enter Tryd.func17, Tryd.ntmps17
      go_wp2
      rw [Hpd.out]
      refine bodyPost_ret (v := .tuple #[.agg #[.bool false, .slice none 0 0], .int .i64 2]) (by simp [results, Tryd.results17, go_sem]) rfl ⟨(Below.refl _ _).alloc (Nat.le_refl _) _, rfl⟩
    · have hcn : ¬ ((d.toNat : Int) = 48) := fun h => hd (UInt8.toNat_inj.1 (by simpa using Int.ofNat.inj h))
      have Hgood : Hid (¬ badHead true (d :: t)) := Lib.hid (fun h => by
        rcases h with h | ⟨h, _⟩
        · cases h
        · exact hd (by simpa using h))
      clear hd
      go_enter Tryd.func17, Tryd.ntmps17
      go_wp2
      clear hb0 hx1 hl0 hl5 hbd hcn hlong
      generalize hds : d :: t = ds at *
      have hlen : t.length + 1 = ds.length := by rw [← hds]; rfl
      have hli : (t.length : Int) + 1 = (ds.length : Int) := by omega
      rw [hli]
      have hpos : 0 < ds.length := by omega
      have hdl : ds.length ≤ 5000 := by omega
      clear hds hlen hli
      obtain ⟨w0, hw0⟩ : ∃ w0, w.alloc (.cells #[.bool false, .slice none 0 0] 25) = w0 := ⟨_, rfl⟩
      have HT0 : Hid (Two w0 w.heap.size 25 (.bool false) (.slice none 0 0)) := Lib.hid (by rw [← hw0]; exact Two.new ..)
      have HB0 : Hid (Below w.heap.size w w0) := Lib.hid (by rw [← hw0]; exact (Below.refl _ _).alloc (Nat.le_refl _) _)
      have hz0 : w.heap.size < w0.heap.size := by rw [← hw0]; simp
      rw [hw0]
      clear hw0
      have c0 := HT0.out.cell0
      have c1 := HT0.out.cell1
      have f0 := HT0.out.frozen 0
      have f1 := HT0.out.frozen 1
      go_loop [6] (fun v => ∃ i : Nat, v = .int .i64 (i : Int) ∧ i ≤ ds.length ∧ Hid (∀ x ∈ ds.take i, IsDig x)) (fun v => ds.length - (cntV v - 1))
      case atStart => exact ⟨0, rfl, Nat.zero_le _, Lib.hid (fun x hx => by simp at hx)⟩
      case round =>
        obtain ⟨i, rfl, hi, hdig⟩ := hrel
        by_cases hlt : i < ds.length
        · obtain ⟨x, hx⟩ : ∃ x, ds[i] = x := ⟨_, rfl⟩
          have hbi : ∀ h2, (⟨ds.toArray⟩ : ByteArray)[i]'h2 = x := fun h2 => (bget ds i hlt h2).trans hx
          have Hx := Lib.hid hx
          clear hx
          by_cases hbad : x.toNat < 48
          · have Hpd : Hid (parseD true ds = .error 2) := Lib.hid (by
              unfold parseD
              rw [if_neg (badHead.not Hgood.out), if_neg (fun h => by have h9 := h x (by rw [← Hx.out]; exact List.getElem_mem hlt); omega)])
            go_wp2
            refine bodyPost_ret (v := .tuple #[.agg #[.bool false, .slice none 0 0], .int .i64 2]) (by simp [results, Tryd.results17, go_sem, c0, c1]) rfl ⟨(HB0.out.setCell (p := ⟨w.heap.size, 0, none⟩) (Nat.le_refl _) _).setCell (p := ⟨w.heap.size, 1, none⟩) (Nat.le_refl _) _, ?_⟩
            rw [Hpd.out]
          · by_cases hbad2 : 57 < x.toNat
            · have Hpd : Hid (parseD true ds = .error 2) := Lib.hid (by
                unfold parseD
                rw [if_neg (badHead.not Hgood.out), if_neg (fun h => by have h9 := h x (by rw [← Hx.out]; exact List.getElem_mem hlt); omega)])
              go_wp2
              refine bodyPost_ret (v := .tuple #[.agg #[.bool false, .slice none 0 0], .int .i64 2]) (by simp [results, Tryd.results17, go_sem, c0, c1]) rfl ⟨(HB0.out.setCell (p := ⟨w.heap.size, 0, none⟩) (Nat.le_refl _) _).setCell (p := ⟨w.heap.size, 1, none⟩) (Nat.le_refl _) _, ?_⟩
              rw [Hpd.out]
            · go_wp2
              go_round
              case rel => exact ⟨i + 1, by simp, by omega, Lib.hid (fun y hy => by
                rw [List.take_succ_eq_append_getElem hlt] at hy
                rcases List.mem_append.1 hy with hy | hy
                · exact hdig.out y hy
                · rw [Hx.out] at hy; obtain rfl := List.mem_singleton.1 hy; unfold IsDig; omega)⟩
              case measure => simp [cntV]; omega
        · obtain rfl : i = ds.length := by omega
          have Hdig : Hid (∀ x ∈ ds, IsDig x) := Lib.hid (by have := hdig.out; rwa [List.take_length] at this)
          clear hdig hi hlt
          go_wp2_with fail
          go_loopw [7, 8] (fun dv ev wr => ∃ (acc : List Nat) (E : Int) (ga : Option Addr) (gc : Nat), ev = .int .i64 E ∧ dv = .slice ga acc.length gc ∧ -4 ≤ E ∧ E ≤ ds.length ∧ acc.length + E.toNat ≤ ds.length ∧ Hid (Low T4 acc) ∧ Hid (dvT 0 (ds.take E.toNat) * T4 ^ acc.length + val T4 acc = dvT 0 ds) ∧ Hid (wr.ownsRow w0.heap.size 3 1 (.slice ga acc.length gc) acc.length (acc.map (iv .i64))) ∧ Hid (Below w0.heap.size w0 wr)) (fun _ ev _ => (intOf ev + 4).toNat)
          case atStart => exact ⟨[], ds.length, none, 0, rfl, rfl, by omega, by omega, by simp, Lib.hid (fun x hx => by cases hx), Lib.hid (by rw [Int.toNat_natCast, List.take_length]; simp [val]), Lib.hid (World.ownsRow_nil _ _ _ _), Lib.hid (Below.refl _ _)⟩
          case round =>
            obtain ⟨acc, E, ga, gc, rfl, rfl, hE1, hE2, hal, hlow, hval, hown, hB⟩ := hrel
            have hzr := hB.out.size
            have hgc : gc ≤ 9223372036854775807 := by
              rcases hown.out.2 with ⟨hv, _⟩ | ⟨_, _, _, hv, _, _, _, h3, _⟩
              · injection hv with _ _ e; omega
              · injection hv with _ _ e; unfold maxLen at h3; omega
            by_cases hE0 : 0 < E
            · obtain ⟨e, rfl⟩ : ∃ e : Nat, E = (e : Int) := ⟨E.toNat, by omega⟩
              rw [Int.toNat_natCast] at hal hval
              have Hst := Lib.hid (grp4_step ds acc e (e - 4) (by omega) rfl hval.out)
              have hmx : max 0 ((e : Int) - 4) = ((e - 4 : Nat) : Int) := by omega
              obtain ⟨j0, hj0⟩ : ∃ j0, e - 4 = j0 := ⟨_, rfl⟩
              rw [hj0] at hmx Hst
              have hj1 : j0 ≤ e := by omega
              have hj2 : e ≤ j0 + 4 := by omega
              have Hj := Lib.hid hj0
              clear hj0
              go_wp2_with fail
              clear hmx
              go_loop [9, 10] (fun vv iv' => ∃ (i v : Nat), iv' = .int .i64 (i : Int) ∧ vv = .int .i64 (v : Int) ∧ j0 ≤ i ∧ i ≤ e ∧ Hid (v = dvT 0 ((ds.take i).drop j0)) ∧ v < 10 ^ (i - j0)) (fun _ v => e + 1 - cntV v)
              case atStart => exact ⟨j0, 0, rfl, rfl, Nat.le_refl _, hj1, Lib.hid (by rw [List.drop_of_length_le (by rw [List.length_take]; omega)]; rfl), by simp⟩
              case round =>
                obtain ⟨i, v, rfl, rfl, hi1, hi2, hv, hvl⟩ := hrel
                have hv4 : v < 10000 := Nat.lt_of_lt_of_le hvl (Nat.pow_le_pow_right (by omega) (by omega : i - j0 ≤ 4))
                by_cases hlt : i < e
                · have hie : i < ds.length := by omega
                  obtain ⟨y, hy⟩ : ∃ y, ds[i] = y := ⟨_, rfl⟩
                  have hby : ∀ h2, (⟨ds.toArray⟩ : ByteArray)[i]'h2 = y := fun h2 => (bget ds i hie h2).trans hy
                  have hyd : IsDig y := Hdig.out y (by rw [← hy]; exact List.getElem_mem _)
                  unfold IsDig at hyd
                  have Hy := Lib.hid hy
                  clear hy
                  go_wp2_with fail
                  go_round
                  case rel =>
                    refine ⟨i + 1, 10 * v + (y.toNat - 48), by simp, ?_, by omega, by omega, Lib.hid ?_, ?_⟩
                    · congr 1; omega
                    · rw [take_drop_snoc ds i j0 hie hi1, dvT_snoc, Hy.out, ← hv.out]
                    · rw [show i + 1 - j0 = (i - j0) + 1 by omega, Nat.pow_succ]
                      generalize 10 ^ (i - j0) = P at *
                      omega
                  case measure => simp [cntV]; omega
                · obtain rfl : i = e := by omega
                  rw [← hv.out] at Hst
                  have hb4 : IntKind.i64.wrap ((i : Int) - 4) = (i : Int) - 4 := IntWalk.i64_in _ (by omega)
                  clear hlt hb4
                  go_wp2_with (at_builtin; refine wpList_append_own _ rfl _ _ 22 rfl w0.heap.size 3 i0 _ 1 8 Tryd.underlying22 Hi.out Hz0.out Hz1.out Hz2.out rfl (by decide) _ _ _ rfl (hown.out.alloc _) ⟨wr.heap.size, 0, none⟩ 1 1 [iv .i64 v] rfl rfl (cell_one_new _ _ _) (by simp [Value.oneCell', iv]) (by unfold maxLen; omega) (by omega) (by simp; omega) ?_)
                  intro v5 w5 hown5 hgrow _
                  obtain ⟨g5, cap5, hv5, _⟩ := hown5.form (by omega)
                  subst hv5
                  have Hown5 : Hid (w5.ownsRow w0.heap.size 3 1 (.slice (some ⟨g5, 0, none⟩) (acc ++ [v]).length cap5) (acc ++ [v]).length ((acc ++ [v]).map (iv .i64))) := Lib.hid (by rw [List.length_append, List.map_append]; exact hown5)
                  have HB5 := Lib.hid ((hB.out.alloc hB.out.size (.cells #[.int .i64 (v : Int)] 3)).grown hgrow (by simp; have := hB.out.size; omega) (fun k e => (hown.out.lt k e).1))
                  clear hown5 hgrow
                  go_wp2_with fail
                  go_roundw
                  case rel =>
                    refine ⟨acc ++ [v], (i : Int) - 4, some ⟨g5, 0, none⟩, cap5, rfl, by simp, by omega, by omega, ?_, Lib.hid (fun y hy => by rcases List.mem_append.1 hy with hy | hy; exact hlow.out y hy; rw [List.mem_singleton.1 hy]; exact hv4), Lib.hid ?_, Hown5, HB5⟩
                    · rw [List.length_append, List.length_singleton]
                      omega
                    · rw [show ((i : Int) - 4).toNat = j0 by rw [← Hj.out]; omega]
                      exact Hst.out
                  case measure => simp [intOf]; omega
            · have Hv0 : Hid (val T4 acc = dvT 0 ds) := Lib.hid (by
                have := hval.out
                rw [show E.toNat = 0 by omega] at this
                rw [← this]
                show _ = 0 * _ + _
                omega)
              have hal2 : acc.length ≤ 5000 := by omega
              have Hno := Lib.hid (normal_any true _ acc _ (RowAt.of_owns hown.out rfl) hlow.out (by omega))
              rw [Hv0.out] at Hno
              obtain ⟨z, hz⟩ : ∃ z, sgn true (dvT 0 ds) = z := ⟨_, rfl⟩
              have hza : z.natAbs = dvT 0 ds := by rw [← hz, sgn_natAbs]
              have Hzl : Hid ((digs T4 z.natAbs).length ≤ 5000) := Lib.hid (by
                rw [hza]
                exact dvT_len4 ds 5000 Hdig.out hdl)
              have Hpd2 : Hid (parseD true ds = if z.natAbs < LIM then .ok z else .error 4) := Lib.hid (by
                unfold parseD
                rw [if_neg (badHead.not Hgood.out), if_pos (show ∀ c ∈ ds, 48 ≤ c.toNat ∧ c.toNat ≤ 57 from Hdig.out), hza, ← hz]
                rfl)
              rw [hz] at Hno
              have HTr := Lib.hid (HT0.out.below hB.out (by omega))
              have HBr := Lib.hid (HB0.out.trans (hB.out.mono (by omega)))
              clear hz hza hval hown hlow Hv0 c0 c1 f0 f1
              go_wp2_with fail
              refine (Hno.out).mono ?_
              rintro e w5 ⟨⟨vr, rfl, hr⟩, hB⟩
              have Hr5 := Lib.hid hr
              obtain ⟨a5, l5, c5, rfl, -, -, -⟩ := hr.form
              have HB5 := Lib.hid hB
              clear hr hB
              generalize hsz : decide (z < 0) = sz at *
              clear hsz Hno
              have HT5 := Lib.hid (HTr.out.below HB5.out HTr.out.lt)
              have HB5a := Lib.hid (HBr.out.trans (HB5.out.mono HBr.out.size))
              obtain ⟨b5, hb5⟩ : ∃ b, w5.heap.size = b := ⟨_, rfl⟩
              obtain ⟨w6, hw6⟩ : ∃ w6, w5.alloc (.cells #[.bool sz, .slice a5 l5 c5] 25) = w6 := ⟨_, rfl⟩
              have hB6 : Below w5.heap.size w5 w6 := by rw [← hw6]; exact (Below.refl _ _).alloc (Nat.le_refl _) _
              have HT6 := Lib.hid (HT5.out.below hB6 HT5.out.lt)
              have HU6 : Hid (Two w6 b5 25 (.bool sz) (.slice a5 l5 c5)) := Lib.hid (by rw [← hw6, ← hb5]; exact Two.new ..)
              have Hr6 := Lib.hid (Hr5.out.below (Nat.le_refl _) hB6)
              have HB6 := Lib.hid (HB5a.out.trans (hB6.mono HB5a.out.size))
              have d0 := HU6.out.cell0
              have d1 := HU6.out.cell1
              clear hB6
              go_wp2_with fail
              refine (fits_any _ z w6 Hr6.out (Nat.le_trans Hzl.out (by omega))).mono ?_
              rintro e w7 ⟨rfl, hB7⟩
              clear hw6 hb5 d0 d1
              have HT7 := Lib.hid (HT6.out.below hB7 HT6.out.lt)
              have HU7 := Lib.hid (HU6.out.below hB7 HU6.out.lt)
              have Hr7 := Lib.hid (Hr6.out.below (Nat.le_refl _) hB7)
              have HB7 := Lib.hid (HB6.out.trans (hB7.mono HB6.out.size))
              have d0 := HU7.out.cell0
              have d1 := HU7.out.cell1
              have c0 := HT7.out.cell0
              have c1 := HT7.out.cell1
              have f0 := HT7.out.frozen 0
              have f1 := HT7.out.frozen 1
              clear hB7
              by_cases hfit : z.natAbs < LIM
              · rw [decide_eq_true hfit]
                have Hpd : Hid (parseD true ds = .ok z) := Lib.hid (by rw [Hpd2.out, if_pos hfit])
                have Hfit := Lib.hid hfit
                clear hfit
                go_wp2
                refine bodyPost_ret (v := .tuple #[.agg #[.bool sz, .slice a5 l5 c5], .int .i64 0]) (by simp [results, Tryd.results17, go_sem, c0, c1]) rfl ⟨(HB7.out.setCell (p := ⟨w.heap.size, 0, none⟩) (Nat.le_refl _) _).setCell (p := ⟨w.heap.size, 1, none⟩) (Nat.le_refl _) _, ?_⟩
                rw [Hpd.out]
                exact ⟨_, rfl, Hr7.out.set_two HT7.out _ _, Hfit.out⟩
              · rw [decide_eq_false hfit]
                have Hpd : Hid (parseD true ds = .error 4) := Lib.hid (by rw [Hpd2.out, if_neg hfit])
                clear hfit
                go_wp2
                refine bodyPost_ret (v := .tuple #[.agg #[.bool false, .slice none 0 0], .int .i64 4]) (by simp [results, Tryd.results17, go_sem, c0, c1]) rfl ⟨(HB7.out.setCell (p := ⟨w.heap.size, 0, none⟩) (Nat.le_refl _) _).setCell (p := ⟨w.heap.size, 1, none⟩) (Nat.le_refl _) _, ?_⟩
                rw [Hpd.out]
  · rw [parseS_pos c t hc (by omega)]
    have hcn0 : ¬ ((c.toNat : Int) = 45) := fun h => hc (UInt8.toNat_inj.1 (by simpa using Int.ofNat.inj h))
    unfold sv
    by_cases hd : c = 48
    · have hcn : (c.toNat : Int) = 48 := by rw [hd]; rfl
      by_cases ht : 0 < t.length
      · have Hpd : Hid (parseD false (c :: t) = .error 2) := Lib.hid (by unfold parseD; rw [if_pos (.inr ⟨by rw [hd]; rfl, .inr (by simpa using ht)⟩)])
        clear hd hc
        go_enter Tryd.func17, Tryd.ntmps17
        go_wp2
        rw [Hpd.out]
        refine bodyPost_ret (v := .tuple #[.agg #[.bool false, .slice none 0 0], .int .i64 2]) (by simp [results, Tryd.results17, go_sem]) rfl ⟨(Below.refl _ _).alloc (Nat.le_refl _) _, rfl⟩
      · have Hgood : Hid (¬ badHead false (c :: t)) := Lib.hid (fun h => by
          rcases h with h | ⟨_, h | h⟩
          · cases h
          · cases h
          · rw [List.length_cons] at h; omega)
        have htl : ¬ (1 < (t.length : Int) + 1) := by omega
        clear hd hc ht
        go_enter Tryd.func17, Tryd.ntmps17
        go_wp2
        clear hb0 hcn hcn0 htl hlong
        generalize hds : c :: t = ds at *
        have hlen : t.length + 1 = ds.length := by rw [← hds]; rfl
        have hli : (t.length : Int) + 1 = (ds.length : Int) := by omega
        rw [hli]
        have hpos : 0 < ds.length := by omega
        have hdl : ds.length ≤ 5000 := by omega
        clear hds hlen hli
        obtain ⟨w0, hw0⟩ : ∃ w0, w.alloc (.cells #[.bool false, .slice none 0 0] 25) = w0 := ⟨_, rfl⟩
        have HT0 : Hid (Two w0 w.heap.size 25 (.bool false) (.slice none 0 0)) := Lib.hid (by rw [← hw0]; exact Two.new ..)
        have HB0 : Hid (Below w.heap.size w w0) := Lib.hid (by rw [← hw0]; exact (Below.refl _ _).alloc (Nat.le_refl _) _)
        have hz0 : w.heap.size < w0.heap.size := by rw [← hw0]; simp
        rw [hw0]
        clear hw0
        have c0 := HT0.out.cell0
        have c1 := HT0.out.cell1
        have f0 := HT0.out.frozen 0
        have f1 := HT0.out.frozen 1
        go_loop [6] (fun v => ∃ i : Nat, v = .int .i64 (i : Int) ∧ i ≤ ds.length ∧ Hid (∀ x ∈ ds.take i, IsDig x)) (fun v => ds.length - (cntV v - 1))
        case atStart => exact ⟨0, rfl, Nat.zero_le _, Lib.hid (fun x hx => by simp at hx)⟩
        case round =>
          obtain ⟨i, rfl, hi, hdig⟩ := hrel
          by_cases hlt : i < ds.length
          · obtain ⟨x, hx⟩ : ∃ x, ds[i] = x := ⟨_, rfl⟩
            have hbi : ∀ h2, (⟨ds.toArray⟩ : ByteArray)[i]'h2 = x := fun h2 => (bget ds i hlt h2).trans hx
            have Hx := Lib.hid hx
            clear hx
            by_cases hbad : x.toNat < 48
            · have Hpd : Hid (parseD false ds = .error 2) := Lib.hid (by
                unfold parseD
                rw [if_neg (badHead.not Hgood.out), if_neg (fun h => by have h9 := h x (by rw [← Hx.out]; exact List.getElem_mem hlt); omega)])
              go_wp2
              refine bodyPost_ret (v := .tuple #[.agg #[.bool false, .slice none 0 0], .int .i64 2]) (by simp [results, Tryd.results17, go_sem, c0, c1]) rfl ⟨(HB0.out.setCell (p := ⟨w.heap.size, 0, none⟩) (Nat.le_refl _) _).setCell (p := ⟨w.heap.size, 1, none⟩) (Nat.le_refl _) _, ?_⟩
              rw [Hpd.out]
            · by_cases hbad2 : 57 < x.toNat
              · have Hpd : Hid (parseD false ds = .error 2) := Lib.hid (by
                  unfold parseD
                  rw [if_neg (badHead.not Hgood.out), if_neg (fun h => by have h9 := h x (by rw [← Hx.out]; exact List.getElem_mem hlt); omega)])
                go_wp2
                refine bodyPost_ret (v := .tuple #[.agg #[.bool false, .slice none 0 0], .int .i64 2]) (by simp [results, Tryd.results17, go_sem, c0, c1]) rfl ⟨(HB0.out.setCell (p := ⟨w.heap.size, 0, none⟩) (Nat.le_refl _) _).setCell (p := ⟨w.heap.size, 1, none⟩) (Nat.le_refl _) _, ?_⟩
                rw [Hpd.out]
              · go_wp2
                go_round
                case rel => exact ⟨i + 1, by simp, by omega, Lib.hid (fun y hy => by
                  rw [List.take_succ_eq_append_getElem hlt] at hy
                  rcases List.mem_append.1 hy with hy | hy
                  · exact hdig.out y hy
                  · rw [Hx.out] at hy; obtain rfl := List.mem_singleton.1 hy; unfold IsDig; omega)⟩
                case measure => simp [cntV]; omega
          · obtain rfl : i = ds.length := by omega
            have Hdig : Hid (∀ x ∈ ds, IsDig x) := Lib.hid (by have := hdig.out; rwa [List.take_length] at this)
            clear hdig hi hlt
            go_wp2_with fail
            go_loopw [7, 8] (fun dv ev wr => ∃ (acc : List Nat) (E : Int) (ga : Option Addr) (gc : Nat), ev = .int .i64 E ∧ dv = .slice ga acc.length gc ∧ -4 ≤ E ∧ E ≤ ds.length ∧ acc.length + E.toNat ≤ ds.length ∧ Hid (Low T4 acc) ∧ Hid (dvT 0 (ds.take E.toNat) * T4 ^ acc.length + val T4 acc = dvT 0 ds) ∧ Hid (wr.ownsRow w0.heap.size 3 1 (.slice ga acc.length gc) acc.length (acc.map (iv .i64))) ∧ Hid (Below w0.heap.size w0 wr)) (fun _ ev _ => (intOf ev + 4).toNat)
            case atStart => exact ⟨[], ds.length, none, 0, rfl, rfl, by omega, by omega, by simp, Lib.hid (fun x hx => by cases hx), Lib.hid (by rw [Int.toNat_natCast, List.take_length]; simp [val]), Lib.hid (World.ownsRow_nil _ _ _ _), Lib.hid (Below.refl _ _)⟩
            case round =>
              obtain ⟨acc, E, ga, gc, rfl, rfl, hE1, hE2, hal, hlow, hval, hown, hB⟩ := hrel
              have hzr := hB.out.size
              have hgc : gc ≤ 9223372036854775807 := by
                rcases hown.out.2 with ⟨hv, _⟩ | ⟨_, _, _, hv, _, _, _, h3, _⟩
                · injection hv with _ _ e; omega
                · injection hv with _ _ e; unfold maxLen at h3; omega
              by_cases hE0 : 0 < E
              · obtain ⟨e, rfl⟩ : ∃ e : Nat, E = (e : Int) := ⟨E.toNat, by omega⟩
                rw [Int.toNat_natCast] at hal hval
                have Hst := Lib.hid (grp4_step ds acc e (e - 4) (by omega) rfl hval.out)
                have hmx : max 0 ((e : Int) - 4) = ((e - 4 : Nat) : Int) := by omega
                obtain ⟨j0, hj0⟩ : ∃ j0, e - 4 = j0 := ⟨_, rfl⟩
                rw [hj0] at hmx Hst
                have hj1 : j0 ≤ e := by omega
                have hj2 : e ≤ j0 + 4 := by omega
                have Hj := Lib.hid hj0
                clear hj0
                go_wp2_with fail
                clear hmx
                go_loop [9, 10] (fun vv iv' => ∃ (i v : Nat), iv' = .int .i64 (i : Int) ∧ vv = .int .i64 (v : Int) ∧ j0 ≤ i ∧ i ≤ e ∧ Hid (v = dvT 0 ((ds.take i).drop j0)) ∧ v < 10 ^ (i - j0)) (fun _ v => e + 1 - cntV v)
                case atStart => exact ⟨j0, 0, rfl, rfl, Nat.le_refl _, hj1, Lib.hid (by rw [List.drop_of_length_le (by rw [List.length_take]; omega)]; rfl), by simp⟩
                case round =>
                  obtain ⟨i, v, rfl, rfl, hi1, hi2, hv, hvl⟩ := hrel
                  have hv4 : v < 10000 := Nat.lt_of_lt_of_le hvl (Nat.pow_le_pow_right (by omega) (by omega : i - j0 ≤ 4))
                  by_cases hlt : i < e
                  · have hie : i < ds.length := by omega
                    obtain ⟨y, hy⟩ : ∃ y, ds[i] = y := ⟨_, rfl⟩
                    have hby : ∀ h2, (⟨ds.toArray⟩ : ByteArray)[i]'h2 = y := fun h2 => (bget ds i hie h2).trans hy
                    have hyd : IsDig y := Hdig.out y (by rw [← hy]; exact List.getElem_mem _)
                    unfold IsDig at hyd
                    have Hy := Lib.hid hy
                    clear hy
                    go_wp2_with fail
                    go_round
                    case rel =>
                      refine ⟨i + 1, 10 * v + (y.toNat - 48), by simp, ?_, by omega, by omega, Lib.hid ?_, ?_⟩
                      · congr 1; omega
                      · rw [take_drop_snoc ds i j0 hie hi1, dvT_snoc, Hy.out, ← hv.out]
                      · rw [show i + 1 - j0 = (i - j0) + 1 by omega, Nat.pow_succ]
                        generalize 10 ^ (i - j0) = P at *
                        omega
                    case measure => simp [cntV]; omega
                  · obtain rfl : i = e := by omega
                    rw [← hv.out] at Hst
                    have hb4 : IntKind.i64.wrap ((i : Int) - 4) = (i : Int) - 4 := IntWalk.i64_in _ (by omega)
                    clear hlt hb4
                    go_wp2_with (at_builtin; refine wpList_append_own _ rfl _ _ 22 rfl w0.heap.size 3 i0 _ 1 8 Tryd.underlying22 Hi.out Hz0.out Hz1.out Hz2.out rfl (by decide) _ _ _ rfl (hown.out.alloc _) ⟨wr.heap.size, 0, none⟩ 1 1 [iv .i64 v] rfl rfl (cell_one_new _ _ _) (by simp [Value.oneCell', iv]) (by unfold maxLen; omega) (by omega) (by simp; omega) ?_)
                    intro v5 w5 hown5 hgrow _
                    obtain ⟨g5, cap5, hv5, _⟩ := hown5.form (by omega)
                    subst hv5
                    have Hown5 : Hid (w5.ownsRow w0.heap.size 3 1 (.slice (some ⟨g5, 0, none⟩) (acc ++ [v]).length cap5) (acc ++ [v]).length ((acc ++ [v]).map (iv .i64))) := Lib.hid (by rw [List.length_append, List.map_append]; exact hown5)
                    have HB5 := Lib.hid ((hB.out.alloc hB.out.size (.cells #[.int .i64 (v : Int)] 3)).grown hgrow (by simp; have := hB.out.size; omega) (fun k e => (hown.out.lt k e).1))
                    clear hown5 hgrow
                    go_wp2_with fail
                    go_roundw
                    case rel =>
                      refine ⟨acc ++ [v], (i : Int) - 4, some ⟨g5, 0, none⟩, cap5, rfl, by simp, by omega, by omega, ?_, Lib.hid (fun y hy => by rcases List.mem_append.1 hy with hy | hy; exact hlow.out y hy; rw [List.mem_singleton.1 hy]; exact hv4), Lib.hid ?_, Hown5, HB5⟩
                      · rw [List.length_append, List.length_singleton]
                        omega
                      · rw [show ((i : Int) - 4).toNat = j0 by rw [← Hj.out]; omega]
                        exact Hst.out
                    case measure => simp [intOf]; omega
              · have Hv0 : Hid (val T4 acc = dvT 0 ds) := Lib.hid (by
                  have := hval.out
                  rw [show E.toNat = 0 by omega] at this
                  rw [← this]
                  show _ = 0 * _ + _
                  omega)
                have hal2 : acc.length ≤ 5000 := by omega
                have Hno := Lib.hid (normal_any false _ acc _ (RowAt.of_owns hown.out rfl) hlow.out (by omega))
                rw [Hv0.out] at Hno
                obtain ⟨z, hz⟩ : ∃ z, sgn false (dvT 0 ds) = z := ⟨_, rfl⟩
                have hza : z.natAbs = dvT 0 ds := by rw [← hz, sgn_natAbs]
                have Hzl : Hid ((digs T4 z.natAbs).length ≤ 5000) := Lib.hid (by
                  rw [hza]
                  exact dvT_len4 ds 5000 Hdig.out hdl)
                have Hpd2 : Hid (parseD false ds = if z.natAbs < LIM then .ok z else .error 4) := Lib.hid (by
                  unfold parseD
                  rw [if_neg (badHead.not Hgood.out), if_pos (show ∀ c ∈ ds, 48 ≤ c.toNat ∧ c.toNat ≤ 57 from Hdig.out), hza, ← hz]
                  rfl)
                rw [hz] at Hno
                have HTr := Lib.hid (HT0.out.below hB.out (by omega))
                have HBr := Lib.hid (HB0.out.trans (hB.out.mono (by omega)))
                clear hz hza hval hown hlow Hv0 c0 c1 f0 f1
                go_wp2_with fail
                refine (Hno.out).mono ?_
                rintro e w5 ⟨⟨vr, rfl, hr⟩, hB⟩
                have Hr5 := Lib.hid hr
                obtain ⟨a5, l5, c5, rfl, -, -, -⟩ := hr.form
                have HB5 := Lib.hid hB
                clear hr hB
                generalize hsz : decide (z < 0) = sz at *
                clear hsz Hno
                have HT5 := Lib.hid (HTr.out.below HB5.out HTr.out.lt)
                have HB5a := Lib.hid (HBr.out.trans (HB5.out.mono HBr.out.size))
                obtain ⟨b5, hb5⟩ : ∃ b, w5.heap.size = b := ⟨_, rfl⟩
                obtain ⟨w6, hw6⟩ : ∃ w6, w5.alloc (.cells #[.bool sz, .slice a5 l5 c5] 25) = w6 := ⟨_, rfl⟩
                have hB6 : Below w5.heap.size w5 w6 := by rw [← hw6]; exact (Below.refl _ _).alloc (Nat.le_refl _) _
                have HT6 := Lib.hid (HT5.out.below hB6 HT5.out.lt)
                have HU6 : Hid (Two w6 b5 25 (.bool sz) (.slice a5 l5 c5)) := Lib.hid (by rw [← hw6, ← hb5]; exact Two.new ..)
                have Hr6 := Lib.hid (Hr5.out.below (Nat.le_refl _) hB6)
                have HB6 := Lib.hid (HB5a.out.trans (hB6.mono HB5a.out.size))
                have d0 := HU6.out.cell0
                have d1 := HU6.out.cell1
                clear hB6
                go_wp2_with fail
                refine (fits_any _ z w6 Hr6.out (Nat.le_trans Hzl.out (by omega))).mono ?_
                rintro e w7 ⟨rfl, hB7⟩
                clear hw6 hb5 d0 d1
                have HT7 := Lib.hid (HT6.out.below hB7 HT6.out.lt)
                have HU7 := Lib.hid (HU6.out.below hB7 HU6.out.lt)
                have Hr7 := Lib.hid (Hr6.out.below (Nat.le_refl _) hB7)
                have HB7 := Lib.hid (HB6.out.trans (hB7.mono HB6.out.size))
                have d0 := HU7.out.cell0
                have d1 := HU7.out.cell1
                have c0 := HT7.out.cell0
                have c1 := HT7.out.cell1
                have f0 := HT7.out.frozen 0
                have f1 := HT7.out.frozen 1
                clear hB7
                by_cases hfit : z.natAbs < LIM
                · rw [decide_eq_true hfit]
                  have Hpd : Hid (parseD false ds = .ok z) := Lib.hid (by rw [Hpd2.out, if_pos hfit])
                  have Hfit := Lib.hid hfit
                  clear hfit
                  go_wp2
                  refine bodyPost_ret (v := .tuple #[.agg #[.bool sz, .slice a5 l5 c5], .int .i64 0]) (by simp [results, Tryd.results17, go_sem, c0, c1]) rfl ⟨(HB7.out.setCell (p := ⟨w.heap.size, 0, none⟩) (Nat.le_refl _) _).setCell (p := ⟨w.heap.size, 1, none⟩) (Nat.le_refl _) _, ?_⟩
                  rw [Hpd.out]
                  exact ⟨_, rfl, Hr7.out.set_two HT7.out _ _, Hfit.out⟩
                · rw [decide_eq_false hfit]
                  have Hpd : Hid (parseD false ds = .error 4) := Lib.hid (by rw [Hpd2.out, if_neg hfit])
                  clear hfit
                  go_wp2
                  refine bodyPost_ret (v := .tuple #[.agg #[.bool false, .slice none 0 0], .int .i64 4]) (by simp [results, Tryd.results17, go_sem, c0, c1]) rfl ⟨(HB7.out.setCell (p := ⟨w.heap.size, 0, none⟩) (Nat.le_refl _) _).setCell (p := ⟨w.heap.size, 1, none⟩) (Nat.le_refl _) _, ?_⟩
                  rw [Hpd.out]
    · have hcn : ¬ ((c.toNat : Int) = 48) := fun h => hd (UInt8.toNat_inj.1 (by simpa using Int.ofNat.inj h))
      have Hgood : Hid (¬ badHead false (c :: t)) := Lib.hid (fun h => by
        rcases h with h | ⟨h, _⟩
        · cases h
        · exact hd (by simpa using h))
      clear hd hc
      go_enter Tryd.func17, Tryd.ntmps17
      go_wp2
      clear hb0 hcn hcn0 hlong
      generalize hds : c :: t = ds at *
      have hlen : t.length + 1 = ds.length := by rw [← hds]; rfl
      have hli : (t.length : Int) + 1 = (ds.length : Int) := by omega
      rw [hli]
      have hpos : 0 < ds.length := by omega
      have hdl : ds.length ≤ 5000 := by omega
      clear hds hlen hli
      obtain ⟨w0, hw0⟩ : ∃ w0, w.alloc (.cells #[.bool false, .slice none 0 0] 25) = w0 := ⟨_, rfl⟩
      have HT0 : Hid (Two w0 w.heap.size 25 (.bool false) (.slice none 0 0)) := Lib.hid (by rw [← hw0]; exact Two.new ..)
      have HB0 : Hid (Below w.heap.size w w0) := Lib.hid (by rw [← hw0]; exact (Below.refl _ _).alloc (Nat.le_refl _) _)
      have hz0 : w.heap.size < w0.heap.size := by rw [← hw0]; simp
      rw [hw0]
      clear hw0
      have c0 := HT0.out.cell0
      have c1 := HT0.out.cell1
      have f0 := HT0.out.frozen 0
      have f1 := HT0.out.frozen 1
      go_loop [6] (fun v => ∃ i : Nat, v = .int .i64 (i : Int) ∧ i ≤ ds.length ∧ Hid (∀ x ∈ ds.take i, IsDig x)) (fun v => ds.length - (cntV v - 1))
      case atStart => exact ⟨0, rfl, Nat.zero_le _, Lib.hid (fun x hx => by simp at hx)⟩
      case round =>
        obtain ⟨i, rfl, hi, hdig⟩ := hrel
        by_cases hlt : i < ds.length
        · obtain ⟨x, hx⟩ : ∃ x, ds[i] = x := ⟨_, rfl⟩
          have hbi : ∀ h2, (⟨ds.toArray⟩ : ByteArray)[i]'h2 = x := fun h2 => (bget ds i hlt h2).trans hx
          have Hx := Lib.hid hx
          clear hx
          by_cases hbad : x.toNat < 48
          · have Hpd : Hid (parseD false ds = .error 2) := Lib.hid (by
              unfold parseD
              rw [if_neg (badHead.not Hgood.out), if_neg (fun h => by have h9 := h x (by rw [← Hx.out]; exact List.getElem_mem hlt); omega)])
            go_wp2
            refine bodyPost_ret (v := .tuple #[.agg #[.bool false, .slice none 0 0], .int .i64 2]) (by simp [results, Tryd.results17, go_sem, c0, c1]) rfl ⟨(HB0.out.setCell (p := ⟨w.heap.size, 0, none⟩) (Nat.le_refl _) _).setCell (p := ⟨w.heap.size, 1, none⟩) (Nat.le_refl _) _, ?_⟩
            rw [Hpd.out]
          · by_cases hbad2 : 57 < x.toNat
            · have Hpd : Hid (parseD false ds = .error 2) := Lib.hid (by
                unfold parseD
                rw [if_neg (badHead.not Hgood.out), if_neg (fun h => by have h9 := h x (by rw [← Hx.out]; exact List.getElem_mem hlt); omega)])
              go_wp2
              refine bodyPost_ret (v := .tuple #[.agg #[.bool false, .slice none 0 0], .int .i64 2]) (by simp [results, Tryd.results17, go_sem, c0, c1]) rfl ⟨(HB0.out.setCell (p := ⟨w.heap.size, 0, none⟩) (Nat.le_refl _) _).setCell (p := ⟨w.heap.size, 1, none⟩) (Nat.le_refl _) _, ?_⟩
              rw [Hpd.out]
            · go_wp2
              go_round
              case rel => exact ⟨i + 1, by simp, by omega, Lib.hid (fun y hy => by
                rw [List.take_succ_eq_append_getElem hlt] at hy
                rcases List.mem_append.1 hy with hy | hy
                · exact hdig.out y hy
                · rw [Hx.out] at hy; obtain rfl := List.mem_singleton.1 hy; unfold IsDig; omega)⟩
              case measure => simp [cntV]; omega
        · obtain rfl : i = ds.length := by omega
          have Hdig : Hid (∀ x ∈ ds, IsDig x) := Lib.hid (by have := hdig.out; rwa [List.take_length] at this)
          clear hdig hi hlt
          go_wp2_with fail
          go_loopw [7, 8] (fun dv ev wr => ∃ (acc : List Nat) (E : Int) (ga : Option Addr) (gc : Nat), ev = .int .i64 E ∧ dv = .slice ga acc.length gc ∧ -4 ≤ E ∧ E ≤ ds.length ∧ acc.length + E.toNat ≤ ds.length ∧ Hid (Low T4 acc) ∧ Hid (dvT 0 (ds.take E.toNat) * T4 ^ acc.length + val T4 acc = dvT 0 ds) ∧ Hid (wr.ownsRow w0.heap.size 3 1 (.slice ga acc.length gc) acc.length (acc.map (iv .i64))) ∧ Hid (Below w0.heap.size w0 wr)) (fun _ ev _ => (intOf ev + 4).toNat)
          case atStart => exact ⟨[], ds.length, none, 0, rfl, rfl, by omega, by omega, by simp, Lib.hid (fun x hx => by cases hx), Lib.hid (by rw [Int.toNat_natCast, List.take_length]; simp [val]), Lib.hid (World.ownsRow_nil _ _ _ _), Lib.hid (Below.refl _ _)⟩
          case round =>
            obtain ⟨acc, E, ga, gc, rfl, rfl, hE1, hE2, hal, hlow, hval, hown, hB⟩ := hrel
            have hzr := hB.out.size
            have hgc : gc ≤ 9223372036854775807 := by
              rcases hown.out.2 with ⟨hv, _⟩ | ⟨_, _, _, hv, _, _, _, h3, _⟩
              · injection hv with _ _ e; omega
              · injection hv with _ _ e; unfold maxLen at h3; omega
            by_cases hE0 : 0 < E
            · obtain ⟨e, rfl⟩ : ∃ e : Nat, E = (e : Int) := ⟨E.toNat, by omega⟩
              rw [Int.toNat_natCast] at hal hval
              have Hst := Lib.hid (grp4_step ds acc e (e - 4) (by omega) rfl hval.out)
              have hmx : max 0 ((e : Int) - 4) = ((e - 4 : Nat) : Int) := by omega
              obtain ⟨j0, hj0⟩ : ∃ j0, e - 4 = j0 := ⟨_, rfl⟩
              rw [hj0] at hmx Hst
              have hj1 : j0 ≤ e := by omega
              have hj2 : e ≤ j0 + 4 := by omega
              have Hj := Lib.hid hj0
              clear hj0
              go_wp2_with fail
              clear hmx
              go_loop [9, 10] (fun vv iv' => ∃ (i v : Nat), iv' = .int .i64 (i : Int) ∧ vv = .int .i64 (v : Int) ∧ j0 ≤ i ∧ i ≤ e ∧ Hid (v = dvT 0 ((ds.take i).drop j0)) ∧ v < 10 ^ (i - j0)) (fun _ v => e + 1 - cntV v)
              case atStart => exact ⟨j0, 0, rfl, rfl, Nat.le_refl _, hj1, Lib.hid (by rw [List.drop_of_length_le (by rw [List.length_take]; omega)]; rfl), by simp⟩
              case round =>
                obtain ⟨i, v, rfl, rfl, hi1, hi2, hv, hvl⟩ := hrel
                have hv4 : v < 10000 := Nat.lt_of_lt_of_le hvl (Nat.pow_le_pow_right (by omega) (by omega : i - j0 ≤ 4))
                by_cases hlt : i < e
                · have hie : i < ds.length := by omega
                  obtain ⟨y, hy⟩ : ∃ y, ds[i] = y := ⟨_, rfl⟩
                  have hby : ∀ h2, (⟨ds.toArray⟩ : ByteArray)[i]'h2 = y := fun h2 => (bget ds i hie h2).trans hy
                  have hyd : IsDig y := Hdig.out y (by rw [← hy]; exact List.getElem_mem _)
                  unfold IsDig at hyd
                  have Hy := Lib.hid hy
                  clear hy
                  go_wp2_with fail
                  go_round
                  case rel =>
                    refine ⟨i + 1, 10 * v + (y.toNat - 48), by simp, ?_, by omega, by omega, Lib.hid ?_, ?_⟩
                    · congr 1; omega
                    · rw [take_drop_snoc ds i j0 hie hi1, dvT_snoc, Hy.out, ← hv.out]
                    · rw [show i + 1 - j0 = (i - j0) + 1 by omega, Nat.pow_succ]
                      generalize 10 ^ (i - j0) = P at *
                      omega
                  case measure => simp [cntV]; omega
                · obtain rfl : i = e := by omega
                  rw [← hv.out] at Hst
                  have hb4 : IntKind.i64.wrap ((i : Int) - 4) = (i : Int) - 4 := IntWalk.i64_in _ (by omega)
                  clear hlt hb4
                  go_wp2_with (at_builtin; refine wpList_append_own _ rfl _ _ 22 rfl w0.heap.size 3 i0 _ 1 8 Tryd.underlying22 Hi.out Hz0.out Hz1.out Hz2.out rfl (by decide) _ _ _ rfl (hown.out.alloc _) ⟨wr.heap.size, 0, none⟩ 1 1 [iv .i64 v] rfl rfl (cell_one_new _ _ _) (by simp [Value.oneCell', iv]) (by unfold maxLen; omega) (by omega) (by simp; omega) ?_)
                  intro v5 w5 hown5 hgrow _
                  obtain ⟨g5, cap5, hv5, _⟩ := hown5.form (by omega)
                  subst hv5
                  have Hown5 : Hid (w5.ownsRow w0.heap.size 3 1 (.slice (some ⟨g5, 0, none⟩) (acc ++ [v]).length cap5) (acc ++ [v]).length ((acc ++ [v]).map (iv .i64))) := Lib.hid (by rw [List.length_append, List.map_append]; exact hown5)
                  have HB5 := Lib.hid ((hB.out.alloc hB.out.size (.cells #[.int .i64 (v : Int)] 3)).grown hgrow (by simp; have := hB.out.size; omega) (fun k e => (hown.out.lt k e).1))
                  clear hown5 hgrow
                  go_wp2_with fail
                  go_roundw
                  case rel =>
                    refine ⟨acc ++ [v], (i : Int) - 4, some ⟨g5, 0, none⟩, cap5, rfl, by simp, by omega, by omega, ?_, Lib.hid (fun y hy => by rcases List.mem_append.1 hy with hy | hy; exact hlow.out y hy; rw [List.mem_singleton.1 hy]; exact hv4), Lib.hid ?_, Hown5, HB5⟩
                    · rw [List.length_append, List.length_singleton]
                      omega
                    · rw [show ((i : Int) - 4).toNat = j0 by rw [← Hj.out]; omega]
                      exact Hst.out
                  case measure => simp [intOf]; omega
            · have Hv0 : Hid (val T4 acc = dvT 0 ds) := Lib.hid (by
                have := hval.out
                rw [show E.toNat = 0 by omega] at this
                rw [← this]
                show _ = 0 * _ + _
                omega)
              have hal2 : acc.length ≤ 5000 := by omega
              have Hno := Lib.hid (normal_any false _ acc _ (RowAt.of_owns hown.out rfl) hlow.out (by omega))
              rw [Hv0.out] at Hno
              obtain ⟨z, hz⟩ : ∃ z, sgn false (dvT 0 ds) = z := ⟨_, rfl⟩
              have hza : z.natAbs = dvT 0 ds := by rw [← hz, sgn_natAbs]
              have Hzl : Hid ((digs T4 z.natAbs).length ≤ 5000) := Lib.hid (by
                rw [hza]
                exact dvT_len4 ds 5000 Hdig.out hdl)
              have Hpd2 : Hid (parseD false ds = if z.natAbs < LIM then .ok z else .error 4) := Lib.hid (by
                unfold parseD
                rw [if_neg (badHead.not Hgood.out), if_pos (show ∀ c ∈ ds, 48 ≤ c.toNat ∧ c.toNat ≤ 57 from Hdig.out), hza, ← hz]
                rfl)
              rw [hz] at Hno
              have HTr := Lib.hid (HT0.out.below hB.out (by omega))
              have HBr := Lib.hid (HB0.out.trans (hB.out.mono (by omega)))
              clear hz hza hval hown hlow Hv0 c0 c1 f0 f1
              go_wp2_with fail
              refine (Hno.out).mono ?_
              rintro e w5 ⟨⟨vr, rfl, hr⟩, hB⟩
              have Hr5 := Lib.hid hr
              obtain ⟨a5, l5, c5, rfl, -, -, -⟩ := hr.form
              have HB5 := Lib.hid hB
              clear hr hB
              generalize hsz : decide (z < 0) = sz at *
              clear hsz Hno
              have HT5 := Lib.hid (HTr.out.below HB5.out HTr.out.lt)
              have HB5a := Lib.hid (HBr.out.trans (HB5.out.mono HBr.out.size))
              obtain ⟨b5, hb5⟩ : ∃ b, w5.heap.size = b := ⟨_, rfl⟩
              obtain ⟨w6, hw6⟩ : ∃ w6, w5.alloc (.cells #[.bool sz, .slice a5 l5 c5] 25) = w6 := ⟨_, rfl⟩
              have hB6 : Below w5.heap.size w5 w6 := by rw [← hw6]; exact (Below.refl _ _).alloc (Nat.le_refl _) _
              have HT6 := Lib.hid (HT5.out.below hB6 HT5.out.lt)
              have HU6 : Hid (Two w6 b5 25 (.bool sz) (.slice a5 l5 c5)) := Lib.hid (by rw [← hw6, ← hb5]; exact Two.new ..)
              have Hr6 := Lib.hid (Hr5.out.below (Nat.le_refl _) hB6)
              have HB6 := Lib.hid (HB5a.out.trans (hB6.mono HB5a.out.size))
              have d0 := HU6.out.cell0
              have d1 := HU6.out.cell1
              clear hB6
              go_wp2_with fail
              refine (fits_any _ z w6 Hr6.out (Nat.le_trans Hzl.out (by omega))).mono ?_
              rintro e w7 ⟨rfl, hB7⟩
              clear hw6 hb5 d0 d1
              have HT7 := Lib.hid (HT6.out.below hB7 HT6.out.lt)
              have HU7 := Lib.hid (HU6.out.below hB7 HU6.out.lt)
              have Hr7 := Lib.hid (Hr6.out.below (Nat.le_refl _) hB7)
              have HB7 := Lib.hid (HB6.out.trans (hB7.mono HB6.out.size))
              have d0 := HU7.out.cell0
              have d1 := HU7.out.cell1
              have c0 := HT7.out.cell0
              have c1 := HT7.out.cell1
              have f0 := HT7.out.frozen 0
              have f1 := HT7.out.frozen 1
              clear hB7
              by_cases hfit : z.natAbs < LIM
              · rw [decide_eq_true hfit]
                have Hpd : Hid (parseD false ds = .ok z) := Lib.hid (by rw [Hpd2.out, if_pos hfit])
                have Hfit := Lib.hid hfit
                clear hfit
                go_wp2
                refine bodyPost_ret (v := .tuple #[.agg #[.bool sz, .slice a5 l5 c5], .int .i64 0]) (by simp [results, Tryd.results17, go_sem, c0, c1]) rfl ⟨(HB7.out.setCell (p := ⟨w.heap.size, 0, none⟩) (Nat.le_refl _) _).setCell (p := ⟨w.heap.size, 1, none⟩) (Nat.le_refl _) _, ?_⟩
                rw [Hpd.out]
                exact ⟨_, rfl, Hr7.out.set_two HT7.out _ _, Hfit.out⟩
              · rw [decide_eq_false hfit]
                have Hpd : Hid (parseD false ds = .error 4) := Lib.hid (by rw [Hpd2.out, if_neg hfit])
                clear hfit
                go_wp2
                refine bodyPost_ret (v := .tuple #[.agg #[.bool false, .slice none 0 0], .int .i64 4]) (by simp [results, Tryd.results17, go_sem, c0, c1]) rfl ⟨(HB7.out.setCell (p := ⟨w.heap.size, 0, none⟩) (Nat.le_refl _) _).setCell (p := ⟨w.heap.size, 1, none⟩) (Nat.le_refl _) _, ?_⟩
                rw [Hpd.out]

end Go.Proofs.YtgfgjnkndfgdiaaDoor
