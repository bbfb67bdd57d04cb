/- the reference's integers: Text. -/
import Derived.Test.YtgfgjnkndfgdiaaDoorR5Power
import Derived.Test.YtgfgjnkndfgdiaaDoorRef01
namespace Go.Proofs.YtgfgjnkndfgdiaaDoor
open Go.RowKit

theorem grp_len (l : List Nat) (hl : Low T4 l) : (grp 4 l).length ≤ 4 * l.length := by
  induction l with
  | nil => simp [grp]
  | cons x l ih =>
    have hx : x < 10 ^ 4 := hl x (List.mem_cons_self ..)
    cases l with
    | nil => exact dec_len_le x 4 (by omega) hx
    | cons y l =>
      have := ih (fun z hz => hl z (List.mem_cons_of_mem _ hz))
      rw [grp, List.length_append, pad_len]
      simp only [List.length_cons] at this ⊢
      omega

def slenV : Value → Nat
  | .string b => b.size
  | _ => 0
theorem ba_lit48 : (⟨#[48]⟩ : ByteArray) = ⟨([48] : Tx).toArray⟩ := rfl

theorem grp_step (A : List Nat) (k : Nat) (h : k + 1 < A.length) : grp 4 (A.drop k) = grp 4 (A.drop (k + 1)) ++ pad 4 (A[k]'(by omega)) := by
  rw [List.drop_eq_getElem_cons (show k < A.length by omega)]
  rw [List.drop_eq_getElem_cons (show k + 1 < A.length by omega)]
  rfl

theorem grp_last (A : List Nat) (h : 0 < A.length) : grp 4 (A.drop (A.length - 1)) = dec (A[A.length - 1]'(by omega)) := by
  rw [List.drop_eq_getElem_cons (show A.length - 1 < A.length by omega), List.drop_of_length_le (by omega)]
  rfl

theorem grp_digs (m : Nat) (h : m ≠ 0) : grp 4 (digs T4 m) = dec m := by
  have := grp_dec 4 (by omega) (digs T4 m) (fun e => h ((digs_nil T4 m t4_two).1 e)) (digs_low T4 t4_two m) (.inl (digs_last T4 t4_two m))
  rw [this]
  exact congrArg dec (val_digs T4 t4_two m)

set_option maxRecDepth 100000 in
set_option maxHeartbeats 1000000 in
theorem rtext_pos (sx : Bool) (xa : Option Addr) (N xcap : Nat) (m : Nat) (w : World) (hm : DigAt w (.slice xa N xcap) m) (hm0 : m ≠ 0) (hlx : (digs T4 m).length ≤ 1048576) :
    Calls Tryd.prog 12 #[.agg #[.bool sx, .slice xa N xcap]] w fun e w' => e = .returned (sv ((if sx then [45] else []) ++ dec m)) ∧ Below w.heap.size w w' := by
  have Hxc := Lib.hid (RowAt.whole hm)
  have hN : N = (digs T4 m).length := by obtain ⟨_, _, e, _⟩ := hm; injection e
  have hNc : N ≤ xcap ∧ xcap ≤ 9223372036854775807 := by obtain ⟨_, _, e, h1, h2, _⟩ := hm; injection e with e1 e2 e3; omega
  have HlA := Lib.hid (digs_low T4 t4_two m)
  have Hg := Lib.hid (grp_digs m hm0)
  have hNp : 0 < N := by rw [hN]; exact List.length_pos_iff.2 (fun h => hm0 ((digs_nil T4 m t4_two).1 h))
  generalize digs T4 m = A at *
  have HN := Lib.hid hN.symm
  rw [← hN] at hlx
  clear hm hN
  have hb0 : ((N : Int) == 0) = false := by simp; omega
  have HB0 := Lib.hid ((Below.refl w.heap.size w).alloc (Nat.le_refl _) (.cells #[.bool sx, .slice xa N xcap] 25))
  have HT0 := Lib.hid (Two.new w 25 (.bool sx) (.slice xa N xcap))
  obtain ⟨n, hn⟩ : ∃ n, w.heap.size = n := ⟨_, rfl⟩
  obtain ⟨w0, hw0⟩ : ∃ w0, w.alloc (.cells #[.bool sx, .slice xa N xcap] 25) = w0 := ⟨_, rfl⟩
  rw [hw0, hn] at HB0 HT0
  have Hn := Lib.hid hn
  obtain ⟨xb, xoff, rfl, hxb, hxcc⟩ := Hxc.out (by rw [HN.out]; exact hNp)
  have Hxcc := Lib.hid (fun j hj => (HB0.out.cell (p := ⟨xb, xoff + j, none⟩) (by show xb < n; omega)).trans (hxcc j hj))
  clear hxcc Hxc
  have d0 := HT0.out.cell0
  have d1 := HT0.out.cell1
  have hl1 : N - 1 < A.length := by rw [HN.out]; omega
  have cl := Hxcc.out (N - 1) hl1
  have hl2 : A[N - 1] < 10000 := HlA.out _ (List.getElem_mem hl1)
  have hi : ((N : Int) - 1).toNat = N - 1 := by omega
  go_enter Tryd.func12, Tryd.ntmps12
  go_wp2_with fail
  refine (decimal_nat A[N - 1] w0 (by omega)).mono ?_
  rintro e w1 ⟨rfl, rfl⟩
  have Hg0 : Hid (grp 4 (A.drop (N - 1)) = dec A[N - 1]) := Lib.hid (by have h5 := grp_last A (by omega); simp only [HN.out] at h5; exact h5)
  unfold sv
  generalize dec A[N - 1] = t0 at *
  generalize A[N - 1] = x0 at *
  clear hw0 cl hi hl2 hl1 hb0
  go_wp2_with fail
  go_loop [3, 4] (fun ov iv' => ∃ (t : Tx) (k : Nat), k < N ∧ iv' = .int .i64 ((k : Int) - 1) ∧ ov = .string ⟨t.toArray⟩ ∧ Hid (grp 4 (A.drop k) = t)) (fun _ i => (intOf i + 1).toNat)
  case atStart => exact ⟨t0, N - 1, by omega, by go_num, rfl, Hg0⟩
  case round =>
    clear Hg0
    obtain ⟨t, k, hk, rfl, rfl, ht⟩ := hrel
    have htl : t.length ≤ 4194304 := by
      rw [← ht.out]
      have h5 := grp_len (A.drop k) (fun x hx => HlA.out x (List.mem_of_mem_drop hx))
      rw [List.length_drop, HN.out] at h5
      omega
    by_cases hk0 : k = 0
    · subst hk0
      have Ht : Hid (t = dec m) := Lib.hid (by rw [← ht.out, List.drop_zero]; exact Hg.out)
      cases sx with
      | false =>
        go_wp2
        go_ret
        exact ⟨by rw [Ht.out]; rfl, HB0.out⟩
      | true =>
        go_wp2
        go_ret
        exact ⟨by rw [Ht.out, ba_lit, ba_app]; rfl, HB0.out⟩
    · have hlk : k - 1 < A.length := by rw [HN.out]; omega
      have cl := Hxcc.out (k - 1) hlk
      have hl2 : A[k - 1] < 10000 := HlA.out _ (List.getElem_mem hlk)
      have Hstep : Hid (grp 4 (A.drop (k - 1)) = t ++ pad 4 A[k - 1]) := Lib.hid (by
        have h5 := grp_step A (k - 1) (by rw [HN.out]; omega)
        rw [h5]
        congr 1
        rw [show k - 1 + 1 = k by omega]
        exact ht.out)
      have Hpad := Lib.hid (pad_dec 4 A[k - 1] (by omega) hl2)
      have i0 : (0 : Int) ≤ (k : Int) - 1 := by omega
      have i1 : (k : Int) - 1 < (N : Int) := by omega
      have i2 : ((k : Int) - 1).toNat = k - 1 := by omega
      have Hdc := Lib.hid (decimal_nat A[k - 1] w1 (by omega))
      generalize A[k - 1] = x at *
      go_wp2_with fail
      refine Hdc.out.mono ?_
      rintro e w2 ⟨rfl, rfl⟩
      unfold sv
      generalize dec x = tx at *
      go_wp2_with fail
      have hpl := Hpad.out.2
      go_loop [5] (fun sv5 => ∃ (u : Tx) (j : Nat), sv5 = .string ⟨u.toArray⟩ ∧ Hid (u = List.replicate j 48 ++ tx) ∧ u.length ≤ 4) (fun v => 4 - slenV v)
      case atStart => exact ⟨tx, 0, rfl, Lib.hid rfl, hpl⟩
      case round =>
        obtain ⟨u, j, rfl, hu, hul⟩ := hrel
        have hju : u.length = j + tx.length := by rw [hu.out, List.length_append, List.length_replicate]
        have Hju := Lib.hid hju
        clear hju
        by_cases h4 : u.length < 4
        · go_wp2_with fail
          go_round
          case rel => exact ⟨48 :: u, j + 1, by rw [ba_lit48, ba_app]; rfl, Lib.hid (by rw [hu.out, List.replicate_succ]; rfl), by rw [List.length_cons]; omega⟩
          case measure =>
            rw [ba_lit48, ba_app]
            show 4 - ([48] ++ u).length < 4 - u.length
            rw [List.length_append]
            show 4 - (1 + u.length) < 4 - u.length
            omega
        · have Hup : Hid (t ++ u = grp 4 (A.drop (k - 1))) := Lib.hid (by
            rw [Hstep.out, Hpad.out.1, hu.out]
            have := Hju.out
            rw [show 4 - tx.length = j by omega])
          go_wp2_with fail
          go_round
          case rel => exact ⟨t ++ u, k - 1, by omega, by go_num, by rw [ba_app], Lib.hid Hup.out.symm⟩
          case measure => simp [intOf]; omega

theorem rtext_zero (xa : Option Addr) (xcap : Nat) (w : World) (_hc : xcap ≤ 9223372036854775807) (b : Bool) :
    Calls Tryd.prog 12 #[.agg #[.bool b, .slice xa 0 xcap]] w fun e w' => e = .returned (sv [48]) ∧ Below w.heap.size w w' := by
  go_enter Tryd.func12, Tryd.ntmps12
  go_wp2
  go_ret
  exact ⟨rfl, (Below.refl _ _).alloc (Nat.le_refl _) _⟩

theorem rtext_any (v : Value) (z : Int) (w : World) (h : RInt w v z) (hl : (digs T4 z.natAbs).length ≤ 1048576) :
    Calls Tryd.prog 12 #[v] w fun e w' => e = .returned (sv (decZ z)) ∧ Below w.heap.size w w' := by
  obtain ⟨a, n, c, rfl, hd, hn, hc⟩ := h.form
  by_cases h0 : z = 0
  · subst h0
    have e : n = 0 := hn
    subst e
    exact rtext_zero a c w hc.2 _
  · have := rtext_pos (decide (z < 0)) a n c z.natAbs w hd (by omega) hl
    have e : decZ z = (if decide (z < 0) = true then [45] else []) ++ dec z.natAbs := by
      unfold decZ
      by_cases hz : z < 0
      · rw [if_pos hz, if_pos (by simpa using hz)]; rfl
      · rw [if_neg hz, if_neg (by simpa using hz)]; rfl
    rw [e]
    exact this

end Go.Proofs.YtgfgjnkndfgdiaaDoor
