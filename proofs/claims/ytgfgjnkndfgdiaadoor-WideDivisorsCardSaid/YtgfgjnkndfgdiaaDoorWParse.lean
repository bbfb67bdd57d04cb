/- wide: Parse. -/
import Derived.Test.YtgfgjnkndfgdiaaDoorWString
namespace Go.Proofs.YtgfgjnkndfgdiaaDoor
open Go.RowKit

def parseD (neg : Bool) (ds : Tx) : Except Int Int :=
  if ds = [] ∨ (ds.head? = some 48 ∧ (neg = true ∨ 1 < ds.length)) then .error 2
  else if ∀ c ∈ ds, 48 ≤ c.toNat ∧ c.toNat ≤ 57 then
    if dvT 0 ds < LIM then .ok (if neg then -(dvT 0 ds : Int) else dvT 0 ds) else .error 4
  else .error 2

theorem parseS_cut (s : Tx) (h : ¬ 5000 < s.length) : parseS s = parseD (Lib.hasPrefix s [45]) (Lib.trimPrefix s [45]) := by
  have e1 : Lib.hasPrefix s [45] = (s.head? == some 45) := by
    cases s with
    | nil => rfl
    | cons c l => simp [Lib.hasPrefix, List.isPrefixOf]; exact Bool.beq_comm
  have e2 : Lib.trimPrefix s [45] = if s.head? == some 45 then s.tail else s := by
    unfold Lib.trimPrefix
    rw [e1]
    cases s with
    | nil => rfl
    | cons c l => simp
  unfold parseS parseD
  rw [if_neg h, e1, e2, lim_eq]

def ParsePost (r : Except Int Int) (w : World) (e : Ending) (w' : World) : Prop :=
  Below w.heap.size w w' ∧ match r with
    | .ok z => ∃ v, e = .returned (.tuple #[v, .int .i64 0]) ∧ WInt w' v z ∧ z.natAbs < LIM
    | .error k => e = .returned (.tuple #[.agg #[.bool false, .slice none 0 0], .int .i64 k])


theorem ba_drop (l : Tx) (n : Nat) : (⟨l.toArray⟩ : ByteArray).extract n l.length = ⟨(l.drop n).toArray⟩ := by
  apply ByteArray.ext
  rw [ByteArray.data_extract]
  show l.toArray.extract n l.length = _
  rw [List.extract_toArray, List.extract_eq_take_drop]
  congr 1
  rw [List.take_of_length_le (by rw [List.length_drop]; omega)]

theorem dvT_take (l : Tx) (i : Nat) (h : i < l.length) : dvT 0 (l.take (i + 1)) = 10 * dvT 0 (l.take i) + (l[i].toNat - 48) := by
  rw [List.take_succ_eq_append_getElem h, dvT_append]
  generalize dvT 0 (l.take i) = x
  show 10 * x + (l[i].toNat - 48) = _
  rfl

theorem dvT_lt (l : Tx) (hl : ∀ c ∈ l, IsDig c) : ∀ m, dvT m l < (m + 1) * 10 ^ l.length := by
  induction l with
  | nil => intro m; show m < (m + 1) * 10 ^ 0; omega
  | cons c l ih =>
    intro m
    have h1 := ih (fun d hd => hl d (List.mem_cons_of_mem _ hd)) (10 * m + (c.toNat - 48))
    have h2 := hl c (List.mem_cons_self ..)
    unfold IsDig at h2
    show dvT (10 * m + (c.toNat - 48)) l < _
    rw [List.length_cons, Nat.pow_succ]
    refine Nat.lt_of_lt_of_le h1 ?_
    rw [Nat.mul_comm (10 ^ l.length) 10, ← Nat.mul_assoc]
    exact Nat.mul_le_mul_right _ (by omega)

theorem dvT_shift (l : Tx) : ∀ m, dvT m l = m * 10 ^ l.length + dvT 0 l := by
  induction l with
  | nil => intro m; show m = m * 10 ^ 0 + 0; omega
  | cons c l ih =>
    intro m
    show dvT (10 * m + (c.toNat - 48)) l = _ + dvT (10 * 0 + (c.toNat - 48)) l
    rw [ih (10 * m + (c.toNat - 48)), ih (10 * 0 + (c.toNat - 48)), List.length_cons, Nat.pow_succ, Nat.add_mul]
    generalize 10 ^ l.length = p
    generalize (c.toNat - 48) = x
    grind

theorem dvT_small (l : Tx) (hl : ∀ c ∈ l, IsDig c) (k : Nat) (hk : l.length ≤ k) : dvT 0 l < 10 ^ k := by
  have h := dvT_lt l hl 0
  rw [Nat.zero_add, Nat.one_mul] at h
  exact Nat.lt_of_lt_of_le h (Nat.pow_le_pow_right (by omega) hk)

theorem w2_5000 : 10 ^ 5000 ≤ W2 ^ 600 := by decide +kernel

theorem bget (l : Tx) (i : Nat) (_h : i < l.length) : ∀ h2, (⟨l.toArray⟩ : ByteArray)[i]'h2 = l[i] := fun _ => rfl

/-- numbers lie in no block of an Int -/
theorem RowAt.set_two {k : IntKind} {w : World} {v : Value} {L : List Nat} {b : Nat} {t : TypeId} {x : Bool} {p : Option Addr} {l c : Nat} (h : RowAt k w v L) (hT : Two w b t (.bool x) (.slice p l c)) (u u' : Value) :
    RowAt k ((w.setCell ⟨b, 0, none⟩ u).setCell ⟨b, 1, none⟩ u') v L := by
  obtain ⟨a, cap, hv, h1, h2, hc⟩ := h
  refine ⟨a, cap, hv, h1, h2, fun h0 => ?_⟩
  obtain ⟨g, off, ha, hlt, hcc⟩ := hc h0
  have hne : g ≠ b := by
    rintro rfl
    have h3 := hcc 0 h0
    rw [cell_of_row w g (off + 0) _ t (0, 0) hT] at h3
    match off, h3 with
    | 0, h3 => cases h3
    | 1, h3 => cases h3
    | n + 2, h3 => cases h3
  refine ⟨g, off, ha, by simp [World.setCell]; exact hlt, fun j hj => ?_⟩
  rw [World.cell?_of_block (w := w) (w' := (w.setCell ⟨b, 0, none⟩ u).setCell ⟨b, 1, none⟩ u')]
  · exact hcc j hj
  · exact (Below.heap_setCell _ ⟨b, 1, none⟩ u' g hne).trans (Below.heap_setCell _ ⟨b, 0, none⟩ u g hne)

theorem WInt.set_two {w : World} {v : Value} {z : Int} {b : Nat} {t : TypeId} {x : Bool} {p : Option Addr} {l c : Nat} (h : WInt w v z) (hT : Two w b t (.bool x) (.slice p l c)) (u u' : Value) :
    WInt ((w.setCell ⟨b, 0, none⟩ u).setCell ⟨b, 1, none⟩ u') v z := by
  obtain ⟨vw, hv, hm⟩ := h
  exact ⟨vw, hv, RowAt.set_two hm hT u u'⟩

set_option maxHeartbeats 4000000 in
theorem parse_any (s : Tx) (w : World) (hs : s.length ≤ 9223372036854775807) : Calls Tryd.prog 16 #[sv s] w (ParsePost (parseS s) w) := by
  by_cases hlong : 5000 < s.length
  · unfold parseS
    rw [if_pos hlong]
    unfold sv
    go_enter Tryd.func16, Tryd.ntmps16
    go_wp2
    refine bodyPost_ret (v := .tuple #[.agg #[.bool false, .slice none 0 0], .int .i64 4]) (by simp [results, Tryd.results16, go_sem]) rfl ⟨(Below.refl _ _).alloc (Nat.le_refl _) _, rfl⟩
  · rw [parseS_cut s hlong]
    have hsz : Hid ((Lib.trimPrefix s [45]).length ≤ 5000) := Lib.hid (by
      unfold Lib.trimPrefix
      split
      · rw [List.length_drop]; omega
      · omega)
    unfold sv
    go_enter Tryd.func16, Tryd.ntmps16
    go_wp2_with fail
    refine (Tryd.strings_CutPrefix _ _ _).mono ?_
    rintro e w' ⟨rfl, rfl⟩
    have e1 : (⟨s.toArray⟩ : ByteArray).data.toList = s := rfl
    have e2 : (⟨#[45]⟩ : ByteArray).data.toList = [45] := rfl
    rw [e1, e2]
    clear e1 e2
    generalize Lib.trimPrefix s [45] = ds at *
    generalize Lib.hasPrefix s [45] = neg at *
    have hdl := hsz.out
    clear hsz
    rcases ds with _ | ⟨c, t⟩
    · go_wp2
      refine bodyPost_ret (v := .tuple #[.agg #[.bool false, .slice none 0 0], .int .i64 2]) (by simp [results, Tryd.results16, go_sem]) rfl ⟨(Below.refl _ _).alloc (Nat.le_refl _) _, rfl⟩
    have hb0 : ∀ h2, (⟨(c :: t).toArray⟩ : ByteArray)[0]'h2 = c := fun _ => rfl
    by_cases hc : c = 48
    · have hcn : (c.toNat : Int) = 48 := by rw [hc]; rfl
      by_cases hn : neg = true
      · subst hn
        have hpd : parseD true (c :: t) = .error 2 := by unfold parseD; rw [if_pos (.inr ⟨by rw [hc]; rfl, .inl rfl⟩)]
        have Hpd := Lib.hid hpd
        clear hpd hc
        go_wp2
        rw [Hpd.out]
        refine bodyPost_ret (v := .tuple #[.agg #[.bool false, .slice none 0 0], .int .i64 2]) (by simp [results, Tryd.results16, go_sem]) rfl ⟨(Below.refl _ _).alloc (Nat.le_refl _) _, rfl⟩
      obtain rfl : neg = false := by simpa using hn
      clear hn
      by_cases ht : 0 < t.length
      · have hpd : parseD false (c :: t) = .error 2 := by unfold parseD; rw [if_pos (.inr ⟨by rw [hc]; rfl, .inr (by simpa using ht)⟩)]
        have Hpd := Lib.hid hpd
        clear hpd hc
        go_wp2
        rw [Hpd.out]
        refine bodyPost_ret (v := .tuple #[.agg #[.bool false, .slice none 0 0], .int .i64 2]) (by simp [results, Tryd.results16, go_sem]) rfl ⟨(Below.refl _ _).alloc (Nat.le_refl _) _, rfl⟩
      · have Hgood : Hid (¬ (c :: t = [] ∨ ((c :: t).head? = some 48 ∧ (false = true ∨ 1 < (c :: t).length)))) := Lib.hid (fun h => by
          rcases h with h | ⟨_, h | h⟩
          · cases h
          · cases h
          · rw [List.length_cons] at h; omega)
        clear hc
        have hc : True := trivial
        have htl : ¬ (1 < (t.length : Int) + 1) := by omega
        clear ht
        go_wp2
        clear htl
        generalize hds : c :: t = ds at *
        have hlen : t.length + 1 = ds.length := by rw [← hds]; rfl
        have hli : (t.length : Int) + 1 = (ds.length : Int) := by omega
        rw [hli]
        have hpos : 0 < ds.length := by omega
        clear hds hlen hli hb0 hcn hc
        obtain ⟨w0, hw0⟩ : ∃ w0, w.alloc (.cells #[.bool false, .slice none 0 0] 33) = w0 := ⟨_, rfl⟩
        have HT0 : Hid (Two w0 w.heap.size 33 (.bool false) (.slice none 0 0)) := Lib.hid (by rw [← hw0]; exact Two.new ..)
        have HB0 : Hid (Below w.heap.size w w0) := Lib.hid (by rw [← hw0]; exact (Below.refl _ _).alloc (Nat.le_refl _) _)
        have hz0 : w.heap.size < w0.heap.size := by rw [← hw0]; simp
        rw [hw0]
        clear hw0
        have c0 := HT0.out.cell0
        have c1 := HT0.out.cell1
        have f0 := HT0.out.frozen 0
        have f1 := HT0.out.frozen 1
        go_loopw [38] (fun v wr => ∃ i : Nat, v = .int .i64 (i : Int) ∧ i ≤ ds.length ∧ Hid (∀ d ∈ ds.take i, IsDig d) ∧ wr = w0) (fun v _ => ds.length - (cntV v - 1))
        case atStart => exact ⟨0, rfl, Nat.zero_le _, Lib.hid (fun d hd => by simp at hd), rfl⟩
        case round =>
          obtain ⟨i, rfl, hi, hdig, hwr⟩ := hrel
          subst wr
          by_cases hlt : i < ds.length
          · obtain ⟨x, hx⟩ : ∃ x, ds[i] = x := ⟨_, rfl⟩
            have hbi : ∀ h2, (⟨ds.toArray⟩ : ByteArray)[i]'h2 = x := fun h2 => (bget ds i hlt h2).trans hx
            have Hx := Lib.hid hx
            clear hx
            by_cases hbad : x.toNat < 48
            · have hpd : parseD false ds = .error 2 := by
                unfold parseD
                rw [if_neg Hgood.out, if_neg (fun h => by have h9 := h x (by rw [← Hx.out]; exact List.getElem_mem hlt); omega)]
              have Hpd := Lib.hid hpd
              clear hpd
              go_wp2
              rw [Hpd.out]
              refine bodyPost_ret (v := .tuple #[.agg #[.bool false, .slice none 0 0], .int .i64 2]) (by simp [results, Tryd.results16, go_sem, c0, c1]) rfl ⟨(HB0.out.setCell (p := ⟨w.heap.size, 0, none⟩) (Nat.le_refl _) _).setCell (p := ⟨w.heap.size, 1, none⟩) (Nat.le_refl _) _, rfl⟩
            · by_cases hbad2 : 57 < x.toNat
              · have hpd : parseD false ds = .error 2 := by
                  unfold parseD
                  rw [if_neg Hgood.out, if_neg (fun h => by have h9 := h x (by rw [← Hx.out]; exact List.getElem_mem hlt); omega)]
                have Hpd := Lib.hid hpd
                clear hpd
                go_wp2
                rw [Hpd.out]
                refine bodyPost_ret (v := .tuple #[.agg #[.bool false, .slice none 0 0], .int .i64 2]) (by simp [results, Tryd.results16, go_sem, c0, c1]) rfl ⟨(HB0.out.setCell (p := ⟨w.heap.size, 0, none⟩) (Nat.le_refl _) _).setCell (p := ⟨w.heap.size, 1, none⟩) (Nat.le_refl _) _, rfl⟩
              · go_wp2
                go_roundw
                case rel => exact ⟨i + 1, by simp, by omega, Lib.hid (fun d hd => by
                  rw [List.take_succ_eq_append_getElem hlt] at hd
                  rcases List.mem_append.1 hd with hd | hd
                  · exact hdig.out d hd
                  · rw [Hx.out] at hd; obtain rfl := List.mem_singleton.1 hd; unfold IsDig; omega), trivial⟩
                case measure => simp [cntV]; omega
          · obtain rfl : i = ds.length := by omega
            have Hdig : Hid (∀ d ∈ ds, IsDig d) := Lib.hid (by have := hdig.out; rwa [List.take_length] at this)
            clear hdig hi hlt
            go_wp2
            go_loopw [4, 7] (fun dv wv wr => ∃ (pre rest : Tx) (a : Option Addr) (l cap : Nat), dv = .string ⟨rest.toArray⟩ ∧ wv = .slice a l cap ∧ rest.length ≤ 5000 ∧ Hid (pre ++ rest = ds) ∧ Hid (rest.length % 9 = 0 ∨ pre = []) ∧ Hid (MagAt wr (.slice a l cap) (dvT 0 pre)) ∧ Hid (Below w0.heap.size w0 wr)) (fun dv _ _ => match dv with | .string b => b.size | _ => 0)
            case atStart => exact ⟨[], ds, none, 0, 0, rfl, rfl, hdl, Lib.hid rfl, Lib.hid (.inr rfl), Lib.hid (by show MagAt _ _ 0; unfold MagAt; rw [digs_zero]; exact RowAt.nil _ _ (by omega)), Lib.hid (Below.refl _ _)⟩
            case round =>
              obtain ⟨pre, rest, a, l, cap, rfl, rfl, hrl, hcat, h9, hmag, hB⟩ := hrel
              have hzr := hB.out.size
              have HBw := Lib.hid (HB0.out.trans (hB.out.mono (by omega)))
              have HT1 := Lib.hid (HT0.out.below hB.out (by omega))
              clear c0 c1 f0 f1
              rcases rest with _ | ⟨c9, t9⟩
              · obtain rfl : pre = ds := by have := hcat.out; rwa [List.append_nil] at this
                have hl600 : (digs W2 (dvT 0 pre)).length ≤ 600 := digs_len_le W2 w2_two 600 _ (Nat.lt_of_lt_of_le (dvT_small pre Hdig.out 5000 hdl) w2_5000)
                have Hlim := Lib.hid (limited_any false _ (dvT 0 pre) wr hmag.out (by omega))
                go_wp2_with fail
                refine Hlim.out.mono ?_
                rintro e w4 ⟨hB4, hcase⟩
                have hT4 := HT1.out.below hB4 (by omega)
                have d0 := hT4.cell0
                have d1 := hT4.cell1
                have g0 := hT4.frozen 0
                have g1 := hT4.frozen 1
                have HB4 := Lib.hid (HBw.out.trans (hB4.mono (by omega)))
                have HB5 : ∀ u v : Value, Hid (Below w.heap.size w ((w4.setCell ⟨w.heap.size, 0, none⟩ u).setCell ⟨w.heap.size, 1, none⟩ v)) := fun u v => Lib.hid ((HB4.out.setCell (p := ⟨w.heap.size, 0, none⟩) (Nat.le_refl _) _).setCell (p := ⟨w.heap.size, 1, none⟩) (Nat.le_refl _) _)
                have HB5' := Lib.hid HB5
                have HT4 := Lib.hid hT4
                clear hT4 hB4 HB5 Hlim
                rcases hcase with ⟨hok, v, rfl, hv⟩ | ⟨hbig, rfl⟩
                · have hpd : parseD false pre = .ok (sgn false (dvT 0 pre)) := by
                    unfold parseD
                    rw [sgn_natAbs] at hok
                    rw [if_neg Hgood.out, if_pos (show ∀ c ∈ pre, 48 ≤ c.toNat ∧ c.toNat ≤ 57 from Hdig.out), if_pos hok]
                    rfl
                  have Hpd := Lib.hid hpd
                  have Hok := Lib.hid hok
                  have Hv := Lib.hid hv
                  obtain ⟨a5, n5, c5, rfl, hm5⟩ := hv.form
                  clear hpd hok hm5 hv
                  go_wp2
                  rw [Hpd.out]
                  refine bodyPost_ret (v := .tuple #[.agg #[.bool (decide (sgn false (dvT 0 pre) < 0)), .slice a5 n5 c5], .int .i64 0]) (by simp [results, Tryd.results16, go_sem, d0, d1]) rfl ⟨(HB5'.out _ _).out, _, rfl, Hv.out.set_two HT4.out _ _, Hok.out⟩
                · have hpd : parseD false pre = .error 4 := by
                    unfold parseD
                    rw [sgn_natAbs] at hbig
                    rw [if_neg Hgood.out, if_pos (show ∀ c ∈ pre, 48 ≤ c.toNat ∧ c.toNat ≤ 57 from Hdig.out), if_neg (by omega)]
                  have Hpd := Lib.hid hpd
                  clear hpd hbig
                  go_wp2
                  rw [Hpd.out]
                  refine bodyPost_ret (v := .tuple #[.agg #[.bool false, .slice none 0 0], .int .i64 4]) (by simp [results, Tryd.results16, go_sem, d0, d1]) rfl ⟨(HB5'.out _ _).out, rfl⟩
              · generalize hrest : c9 :: t9 = rest at *
                have hrpos : 0 < rest.length := by rw [← hrest]; simp
                clear hrest
                obtain ⟨n, hn⟩ : ∃ n, (rest.length - 1) % 9 + 1 = n := ⟨_, rfl⟩
                have hn9 : n ≤ 9 := by omega
                have hnr : n ≤ rest.length := by omega
                have hni : ((rest.length : Int) - 1) % 9 + 1 = (n : Int) := by omega
                have Hn := Lib.hid hn
                have Hrd : Hid (∀ d ∈ rest, IsDig d) := Lib.hid (fun d hd => Hdig.out d (by rw [← hcat.out]; exact List.mem_append_right _ hd))
                clear hn
                go_wp2
                clear hni
                go_loopw [9, 62] (fun xv iv3 wq => ∃ i x : Nat, iv3 = .int .i64 (i : Int) ∧ xv = .int .u32 (x : Int) ∧ i ≤ n ∧ x < 10 ^ i ∧ Hid (x = dvT 0 (rest.take i)) ∧ wq = wr) (fun _ v _ => n - (cntV v - 1))
                case atStart => exact ⟨0, 0, rfl, rfl, Nat.zero_le _, by simp, Lib.hid rfl, rfl⟩
                case round =>
                  obtain ⟨i, x, rfl, rfl, hi, hxl, hx, hwq⟩ := hrel
                  subst hwq
                  have hx9 : x < 1000000000 := Nat.lt_of_lt_of_le hxl (Nat.pow_le_pow_right (by omega) (by omega : i ≤ 9))
                  by_cases hlt : i < n
                  · obtain ⟨y, hy⟩ : ∃ y, rest[i] = y := ⟨_, rfl⟩
                    have hby : ∀ h2, (⟨rest.toArray⟩ : ByteArray)[i]'h2 = y := fun h2 => (bget rest i (by omega) h2).trans hy
                    have hyd : IsDig y := Hrd.out y (by rw [← hy]; exact List.getElem_mem _)
                    unfold IsDig at hyd
                    have Hy := Lib.hid hy
                    have hx8 : x < 100000000 := Nat.lt_of_lt_of_le hxl (Nat.pow_le_pow_right (by omega) (by omega : i ≤ 8))
                    clear hy
                    go_wp2
                    go_roundw
                    case rel =>
                      have hp10 : 10 ^ (i + 1) = 10 * 10 ^ i := by rw [Nat.pow_succ, Nat.mul_comm]
                      refine ⟨i + 1, 10 * x + (y.toNat - 48), by simp, ?_, by omega, by rw [hp10]; generalize 10 ^ i = P at *; omega, Lib.hid ?_, trivial⟩
                      · congr 1; omega
                      · rw [dvT_take rest i (by omega), Hy.out, ← hx.out]
                    case measure => simp [cntV]; omega
                  · obtain rfl : i = n := by omega
                    clear hlt hi
                    have hml : (digs W2 (dvT 0 pre)).length ≤ 600 := digs_len_le W2 w2_two 600 _ (Nat.lt_of_lt_of_le (dvT_small pre (fun d hd => Hdig.out d (by rw [← hcat.out]; exact List.mem_append_left _ hd)) 5000 (by have := congrArg List.length hcat.out; rw [List.length_append] at this; omega)) w2_5000)
                    have Hsc := Lib.hid (scale_any _ (dvT 0 pre) 1000000000 x wr hmag.out (by omega) (by omega) (by omega))
                    have Hval : Hid (dvT 0 pre * 1000000000 + x = dvT 0 (pre ++ rest.take i)) := Lib.hid (by
                      rw [dvT_append, dvT_shift (rest.take i) (dvT 0 pre), List.length_take, Nat.min_eq_left (by omega), ← hx.out]
                      rcases h9.out with h9 | h9
                      · have : i = 9 := by have := Hn.out; omega
                        rw [this]
                      · rw [h9]; show 0 * _ + x = 0 * _ + x; rw [Nat.zero_mul, Nat.zero_mul])
                    clear hml
                    go_wp2_with fail
                    refine Hsc.out.mono ?_
                    rintro e w3 ⟨v3, rfl, hm3, hB3⟩
                    obtain ⟨a3, c3, rfl, _, _, _⟩ := id hm3
                    have Hm3 := Lib.hid hm3
                    have HB3 := Lib.hid (hB.out.trans (hB3.mono hzr))
                    clear hm3 hB3 Hsc
                    go_wp2
                    go_roundw
                    case rel =>
                      refine ⟨pre ++ rest.take i, rest.drop i, a3, _, c3, by rw [ba_drop], rfl, by rw [List.length_drop]; omega, Lib.hid (by rw [List.append_assoc, List.take_append_drop]; exact hcat.out), Lib.hid (.inl ?_), Lib.hid (by rw [← Hval.out]; exact Hm3.out), HB3⟩
                      rw [List.length_drop]
                      have := Hn.out
                      omega
                    case measure =>
                      rw [ba_drop]
                      show (rest.drop i).toArray.size < rest.toArray.size
                      rw [List.size_toArray, List.size_toArray, List.length_drop]
                      have := Hn.out
                      omega
    · have hcn : ¬ ((c.toNat : Int) = 48) := fun h => hc (UInt8.toNat_inj.1 (by simpa using Int.ofNat.inj h))
      have Hgood : Hid (¬ (c :: t = [] ∨ ((c :: t).head? = some 48 ∧ (neg = true ∨ 1 < (c :: t).length)))) := Lib.hid (fun h => by
        rcases h with h | ⟨h, _⟩
        · cases h
        · exact hc (by simpa using h))
      go_wp2
      generalize hds : c :: t = ds at *
      have hlen : t.length + 1 = ds.length := by rw [← hds]; rfl
      have hli : (t.length : Int) + 1 = (ds.length : Int) := by omega
      rw [hli]
      have hpos : 0 < ds.length := by omega
      clear hds hlen hli hb0 hcn hc
      obtain ⟨w0, hw0⟩ : ∃ w0, w.alloc (.cells #[.bool false, .slice none 0 0] 33) = w0 := ⟨_, rfl⟩
      have HT0 : Hid (Two w0 w.heap.size 33 (.bool false) (.slice none 0 0)) := Lib.hid (by rw [← hw0]; exact Two.new ..)
      have HB0 : Hid (Below w.heap.size w w0) := Lib.hid (by rw [← hw0]; exact (Below.refl _ _).alloc (Nat.le_refl _) _)
      have hz0 : w.heap.size < w0.heap.size := by rw [← hw0]; simp
      rw [hw0]
      clear hw0
      have c0 := HT0.out.cell0
      have c1 := HT0.out.cell1
      have f0 := HT0.out.frozen 0
      have f1 := HT0.out.frozen 1
      go_loopw [38] (fun v wr => ∃ i : Nat, v = .int .i64 (i : Int) ∧ i ≤ ds.length ∧ Hid (∀ d ∈ ds.take i, IsDig d) ∧ wr = w0) (fun v _ => ds.length - (cntV v - 1))
      case atStart => exact ⟨0, rfl, Nat.zero_le _, Lib.hid (fun d hd => by simp at hd), rfl⟩
      case round =>
        obtain ⟨i, rfl, hi, hdig, hwr⟩ := hrel
        subst wr
        by_cases hlt : i < ds.length
        · obtain ⟨x, hx⟩ : ∃ x, ds[i] = x := ⟨_, rfl⟩
          have hbi : ∀ h2, (⟨ds.toArray⟩ : ByteArray)[i]'h2 = x := fun h2 => (bget ds i hlt h2).trans hx
          have Hx := Lib.hid hx
          clear hx
          by_cases hbad : x.toNat < 48
          · have hpd : parseD neg ds = .error 2 := by
              unfold parseD
              rw [if_neg Hgood.out, if_neg (fun h => by have h9 := h x (by rw [← Hx.out]; exact List.getElem_mem hlt); omega)]
            have Hpd := Lib.hid hpd
            clear hpd
            go_wp2
            rw [Hpd.out]
            refine bodyPost_ret (v := .tuple #[.agg #[.bool false, .slice none 0 0], .int .i64 2]) (by simp [results, Tryd.results16, go_sem, c0, c1]) rfl ⟨(HB0.out.setCell (p := ⟨w.heap.size, 0, none⟩) (Nat.le_refl _) _).setCell (p := ⟨w.heap.size, 1, none⟩) (Nat.le_refl _) _, rfl⟩
          · by_cases hbad2 : 57 < x.toNat
            · have hpd : parseD neg ds = .error 2 := by
                unfold parseD
                rw [if_neg Hgood.out, if_neg (fun h => by have h9 := h x (by rw [← Hx.out]; exact List.getElem_mem hlt); omega)]
              have Hpd := Lib.hid hpd
              clear hpd
              go_wp2
              rw [Hpd.out]
              refine bodyPost_ret (v := .tuple #[.agg #[.bool false, .slice none 0 0], .int .i64 2]) (by simp [results, Tryd.results16, go_sem, c0, c1]) rfl ⟨(HB0.out.setCell (p := ⟨w.heap.size, 0, none⟩) (Nat.le_refl _) _).setCell (p := ⟨w.heap.size, 1, none⟩) (Nat.le_refl _) _, rfl⟩
            · go_wp2
              go_roundw
              case rel => exact ⟨i + 1, by simp, by omega, Lib.hid (fun d hd => by
                rw [List.take_succ_eq_append_getElem hlt] at hd
                rcases List.mem_append.1 hd with hd | hd
                · exact hdig.out d hd
                · rw [Hx.out] at hd; obtain rfl := List.mem_singleton.1 hd; unfold IsDig; omega), trivial⟩
              case measure => simp [cntV]; omega
        · obtain rfl : i = ds.length := by omega
          have Hdig : Hid (∀ d ∈ ds, IsDig d) := Lib.hid (by have := hdig.out; rwa [List.take_length] at this)
          clear hdig hi hlt
          go_wp2
          go_loopw [4, 7] (fun dv wv wr => ∃ (pre rest : Tx) (a : Option Addr) (l cap : Nat), dv = .string ⟨rest.toArray⟩ ∧ wv = .slice a l cap ∧ rest.length ≤ 5000 ∧ Hid (pre ++ rest = ds) ∧ Hid (rest.length % 9 = 0 ∨ pre = []) ∧ Hid (MagAt wr (.slice a l cap) (dvT 0 pre)) ∧ Hid (Below w0.heap.size w0 wr)) (fun dv _ _ => match dv with | .string b => b.size | _ => 0)
          case atStart => exact ⟨[], ds, none, 0, 0, rfl, rfl, hdl, Lib.hid rfl, Lib.hid (.inr rfl), Lib.hid (by show MagAt _ _ 0; unfold MagAt; rw [digs_zero]; exact RowAt.nil _ _ (by omega)), Lib.hid (Below.refl _ _)⟩
          case round =>
            obtain ⟨pre, rest, a, l, cap, rfl, rfl, hrl, hcat, h9, hmag, hB⟩ := hrel
            have hzr := hB.out.size
            have HBw := Lib.hid (HB0.out.trans (hB.out.mono (by omega)))
            have HT1 := Lib.hid (HT0.out.below hB.out (by omega))
            clear c0 c1 f0 f1
            rcases rest with _ | ⟨c9, t9⟩
            · obtain rfl : pre = ds := by have := hcat.out; rwa [List.append_nil] at this
              have hl600 : (digs W2 (dvT 0 pre)).length ≤ 600 := digs_len_le W2 w2_two 600 _ (Nat.lt_of_lt_of_le (dvT_small pre Hdig.out 5000 hdl) w2_5000)
              have Hlim := Lib.hid (limited_any neg _ (dvT 0 pre) wr hmag.out (by omega))
              go_wp2_with fail
              refine Hlim.out.mono ?_
              rintro e w4 ⟨hB4, hcase⟩
              have hT4 := HT1.out.below hB4 (by omega)
              have d0 := hT4.cell0
              have d1 := hT4.cell1
              have g0 := hT4.frozen 0
              have g1 := hT4.frozen 1
              have HB4 := Lib.hid (HBw.out.trans (hB4.mono (by omega)))
              have HB5 : ∀ u v : Value, Hid (Below w.heap.size w ((w4.setCell ⟨w.heap.size, 0, none⟩ u).setCell ⟨w.heap.size, 1, none⟩ v)) := fun u v => Lib.hid ((HB4.out.setCell (p := ⟨w.heap.size, 0, none⟩) (Nat.le_refl _) _).setCell (p := ⟨w.heap.size, 1, none⟩) (Nat.le_refl _) _)
              have HB5' := Lib.hid HB5
              have HT4 := Lib.hid hT4
              clear hT4 hB4 HB5 Hlim
              rcases hcase with ⟨hok, v, rfl, hv⟩ | ⟨hbig, rfl⟩
              · have hpd : parseD neg pre = .ok (sgn neg (dvT 0 pre)) := by
                  unfold parseD
                  rw [sgn_natAbs] at hok
                  rw [if_neg Hgood.out, if_pos (show ∀ c ∈ pre, 48 ≤ c.toNat ∧ c.toNat ≤ 57 from Hdig.out), if_pos hok]
                  cases neg <;> rfl
                have Hpd := Lib.hid hpd
                have Hok := Lib.hid hok
                have Hv := Lib.hid hv
                obtain ⟨a5, n5, c5, rfl, hm5⟩ := hv.form
                clear hpd hok hm5 hv
                go_wp2
                rw [Hpd.out]
                refine bodyPost_ret (v := .tuple #[.agg #[.bool (decide (sgn neg (dvT 0 pre) < 0)), .slice a5 n5 c5], .int .i64 0]) (by simp [results, Tryd.results16, go_sem, d0, d1]) rfl ⟨(HB5'.out _ _).out, _, rfl, Hv.out.set_two HT4.out _ _, Hok.out⟩
              · have hpd : parseD neg pre = .error 4 := by
                  unfold parseD
                  rw [sgn_natAbs] at hbig
                  rw [if_neg Hgood.out, if_pos (show ∀ c ∈ pre, 48 ≤ c.toNat ∧ c.toNat ≤ 57 from Hdig.out), if_neg (by omega)]
                have Hpd := Lib.hid hpd
                clear hpd hbig
                go_wp2
                rw [Hpd.out]
                refine bodyPost_ret (v := .tuple #[.agg #[.bool false, .slice none 0 0], .int .i64 4]) (by simp [results, Tryd.results16, go_sem, d0, d1]) rfl ⟨(HB5'.out _ _).out, rfl⟩
            · generalize hrest : c9 :: t9 = rest at *
              have hrpos : 0 < rest.length := by rw [← hrest]; simp
              clear hrest
              obtain ⟨n, hn⟩ : ∃ n, (rest.length - 1) % 9 + 1 = n := ⟨_, rfl⟩
              have hn9 : n ≤ 9 := by omega
              have hnr : n ≤ rest.length := by omega
              have hni : ((rest.length : Int) - 1) % 9 + 1 = (n : Int) := by omega
              have Hn := Lib.hid hn
              have Hrd : Hid (∀ d ∈ rest, IsDig d) := Lib.hid (fun d hd => Hdig.out d (by rw [← hcat.out]; exact List.mem_append_right _ hd))
              clear hn
              go_wp2
              clear hni
              go_loopw [9, 62] (fun xv iv3 wq => ∃ i x : Nat, iv3 = .int .i64 (i : Int) ∧ xv = .int .u32 (x : Int) ∧ i ≤ n ∧ x < 10 ^ i ∧ Hid (x = dvT 0 (rest.take i)) ∧ wq = wr) (fun _ v _ => n - (cntV v - 1))
              case atStart => exact ⟨0, 0, rfl, rfl, Nat.zero_le _, by simp, Lib.hid rfl, rfl⟩
              case round =>
                obtain ⟨i, x, rfl, rfl, hi, hxl, hx, hwq⟩ := hrel
                subst hwq
                have hx9 : x < 1000000000 := Nat.lt_of_lt_of_le hxl (Nat.pow_le_pow_right (by omega) (by omega : i ≤ 9))
                by_cases hlt : i < n
                · obtain ⟨y, hy⟩ : ∃ y, rest[i] = y := ⟨_, rfl⟩
                  have hby : ∀ h2, (⟨rest.toArray⟩ : ByteArray)[i]'h2 = y := fun h2 => (bget rest i (by omega) h2).trans hy
                  have hyd : IsDig y := Hrd.out y (by rw [← hy]; exact List.getElem_mem _)
                  unfold IsDig at hyd
                  have Hy := Lib.hid hy
                  have hx8 : x < 100000000 := Nat.lt_of_lt_of_le hxl (Nat.pow_le_pow_right (by omega) (by omega : i ≤ 8))
                  clear hy
                  go_wp2
                  go_roundw
                  case rel =>
                    have hp10 : 10 ^ (i + 1) = 10 * 10 ^ i := by rw [Nat.pow_succ, Nat.mul_comm]
                    refine ⟨i + 1, 10 * x + (y.toNat - 48), by simp, ?_, by omega, by rw [hp10]; generalize 10 ^ i = P at *; omega, Lib.hid ?_, trivial⟩
                    · congr 1; omega
                    · rw [dvT_take rest i (by omega), Hy.out, ← hx.out]
                  case measure => simp [cntV]; omega
                · obtain rfl : i = n := by omega
                  clear hlt hi
                  have hml : (digs W2 (dvT 0 pre)).length ≤ 600 := digs_len_le W2 w2_two 600 _ (Nat.lt_of_lt_of_le (dvT_small pre (fun d hd => Hdig.out d (by rw [← hcat.out]; exact List.mem_append_left _ hd)) 5000 (by have := congrArg List.length hcat.out; rw [List.length_append] at this; omega)) w2_5000)
                  have Hsc := Lib.hid (scale_any _ (dvT 0 pre) 1000000000 x wr hmag.out (by omega) (by omega) (by omega))
                  have Hval : Hid (dvT 0 pre * 1000000000 + x = dvT 0 (pre ++ rest.take i)) := Lib.hid (by
                    rw [dvT_append, dvT_shift (rest.take i) (dvT 0 pre), List.length_take, Nat.min_eq_left (by omega), ← hx.out]
                    rcases h9.out with h9 | h9
                    · have : i = 9 := by have := Hn.out; omega
                      rw [this]
                    · rw [h9]; show 0 * _ + x = 0 * _ + x; rw [Nat.zero_mul, Nat.zero_mul])
                  clear hml
                  go_wp2_with fail
                  refine Hsc.out.mono ?_
                  rintro e w3 ⟨v3, rfl, hm3, hB3⟩
                  obtain ⟨a3, c3, rfl, _, _, _⟩ := id hm3
                  have Hm3 := Lib.hid hm3
                  have HB3 := Lib.hid (hB.out.trans (hB3.mono hzr))
                  clear hm3 hB3 Hsc
                  go_wp2
                  go_roundw
                  case rel =>
                    refine ⟨pre ++ rest.take i, rest.drop i, a3, _, c3, by rw [ba_drop], rfl, by rw [List.length_drop]; omega, Lib.hid (by rw [List.append_assoc, List.take_append_drop]; exact hcat.out), Lib.hid (.inl ?_), Lib.hid (by rw [← Hval.out]; exact Hm3.out), HB3⟩
                    rw [List.length_drop]
                    have := Hn.out
                    omega
                  case measure =>
                    rw [ba_drop]
                    show (rest.drop i).toArray.size < rest.toArray.size
                    rw [List.size_toArray, List.size_toArray, List.length_drop]
                    have := Hn.out
                    omega

end Go.Proofs.YtgfgjnkndfgdiaaDoor
