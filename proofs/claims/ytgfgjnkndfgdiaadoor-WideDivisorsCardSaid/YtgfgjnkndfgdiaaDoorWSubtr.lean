/- wide: subtract. -/
import Derived.Test.YtgfgjnkndfgdiaaDoorWEst
set_option linter.unusedVariables false
set_option linter.unusedSimpArgs false
namespace Go.Proofs.YtgfgjnkndfgdiaaDoor
open Go.RowKit

theorem mid_get (A P C : List Nat) (i : Nat) (h : i < P.length) (h' : A.length + i < (A ++ P ++ C).length) : (A ++ P ++ C)[A.length + i] = P[i] := by
  rw [List.getElem_append_left (by rw [List.length_append]; omega), List.getElem_append_right (by omega)]
  congr 1
  omega
theorem mid_set (A P C : List Nat) (i x : Nat) (h : i < P.length) : (A ++ P ++ C).set (A.length + i) x = A ++ P.set i x ++ C := by
  rw [List.set_append_left _ _ (by rw [List.length_append]; omega), List.set_append_right _ _ (by omega), Nat.add_sub_cancel_left]

section
variable {w : World} {g : Nat} {A P C : List Nat}
theorem Blk.mid (h : Blk w g 74 .u32 (A ++ P ++ C)) (i : Nat) (hi : i < P.length) : w.cell? ⟨g, A.length + i, none⟩ = some (.int .u32 (P[i] : Int)) := by
  have hl : A.length + i < (A ++ P ++ C).length := by rw [List.length_append, List.length_append]; omega
  have := h.cell (A.length + i) hl
  rw [mid_get A P C i hi hl] at this
  exact this
theorem Blk.midset (h : Blk w g 74 .u32 (A ++ P ++ C)) (i x : Nat) (hi : i < P.length) : Blk (w.setCell ⟨g, A.length + i, none⟩ (.int .u32 (x : Int))) g 74 .u32 (A ++ P.set i x ++ C) := by
  have := h.set (A.length + i) x
  rw [mid_set A P C i x hi] at this
  exact this
end

theorem and_mask (t : Nat) (h : t < 18446744073709551616) : bits BinOp.and IntKind.u64 (t : Int) 4294967295 = ((t % 4294967296 : Nat) : Int) := by
  have h1 := u64_and_nat t 4294967295 h (by omega)
  have h2 : t &&& 4294967295 = t % 4294967296 := Nat.and_two_pow_sub_one_eq_mod t 32
  rw [h2] at h1
  exact h1

theorem sub_word (p lo b : Nat) (hp : p < 4294967296) (hlo : lo < 4294967296) (hb : b ≤ 1) (T D : Int) (hT : T = ((p : Int) - lo) % 18446744073709551616) (hD : D = (T - b) % 18446744073709551616) :
    D % 4294967296 = (dif p lo b : Int) ∧ D / 9223372036854775808 = (brw p lo b : Int) := dif_word p lo b hp hlo hb T D hT hD

/-- what subtract leaves -/
def SubPost (g n Q : Nat) (A Pt C D : List Nat) (w : World) (e : Ending) (w' : World) : Prop :=
  ∃ Pt' f, e = .returned (.bool (decide (f = 1))) ∧ Blk w' g 74 .u32 (A ++ Pt' ++ C) ∧ Pt'.length = n + 1 ∧ Low W2 Pt' ∧ f ≤ 1 ∧ val W2 Pt' + Q * val W2 D = val W2 Pt + f * W2 ^ (n + 1) ∧ Only (fun k => k = g) w w'

set_option maxRecDepth 100000 in
set_option maxHeartbeats 2000000 in
theorem subtract_core (g at_ pc db doff dc n Q : Nat) (A Pt C D : List Nat) (w : World) (hA : A.length = at_) (hP : Pt.length = n + 1) (hD : D.length = n) (hn2 : n ≤ 1048576) (hat : at_ ≤ 1048576) (hpc : n + 1 ≤ pc) (hpc2 : pc ≤ 9223372036854775807) (hdc : n ≤ dc) (hdc2 : dc ≤ 9223372036854775807) (hQ : Q < 4294967296)
    (hblk : Blk w g 74 .u32 (A ++ Pt ++ C)) (lP : Low W2 Pt) (lD : Low W2 D) (hdg : db ≠ g) (hdb : db < w.heap.size) (hdcc : ∀ j (h : j < D.length), w.cell? ⟨db, doff + j, none⟩ = some (.int .u32 (D[j] : Int))) :
    Calls Tryd.prog 80 #[.slice (some ⟨g, at_, none⟩) (n + 1) pc, .slice (some ⟨db, doff, none⟩) n dc, .int .u64 (Q : Int)] w (SubPost g n Q A Pt C D w) := by
  have HB := Lib.hid hblk
  have HlD := Lib.hid lD
  have Hdc := Lib.hid hdcc
  have HA := Lib.hid hA
  have HP := Lib.hid hP
  have HD := Lib.hid hD
  have HI0 := Lib.hid (SubI.start Pt D Q lP)
  clear hblk lP lD hdcc hA hP hD
  go_enter Tryd.func80, Tryd.ntmps80
  go_wp2_with fail
  go_loopw [8, 9, 18] (fun cv bv iv' wr => ∃ (i c b : Nat) (L : List Nat), i ≤ n ∧ cv = .int .u64 (c : Int) ∧ bv = .int .u64 (b : Int) ∧ iv' = .int .i64 (i : Int) ∧ Hid (SubI Pt D Q i c b L) ∧ Hid (Blk wr g 74 .u32 (A ++ L ++ C)) ∧ Hid (Only (fun k => k = g) w wr)) (fun _ _ v _ => n - (intOf v).toNat)
  case atStart => exact ⟨0, 0, 0, Pt, by omega, rfl, rfl, rfl, HI0, HB, Lib.hid (Only.refl _ _)⟩
  case round =>
    obtain ⟨i, c, b, L, hi, rfl, rfl, rfl, hI, hbl, hO⟩ := hrel
    have cl : c < 4294967296 := hI.out.cl
    have bl : b ≤ 1 := hI.out.bl
    have hLl : L.length = n + 1 := by rw [hI.out.len, HP.out]
    by_cases hlt : i < n
    · have hd : i < D.length := by rw [HD.out]; exact hlt
      have hp : i < Pt.length := by rw [HP.out]; omega
      have hl : i < L.length := by omega
      obtain ⟨hN, hLi, ht⟩ := hI.out.next hl hd hQ HlD.out hp
      have HN := Lib.hid hN
      have c1 := (hO.out.cell (p := ⟨db, doff + i, none⟩) hdg hdb).trans (Hdc.out i hd)
      have c2 := hbl.out.mid i hl
      rw [HA.out, hLi] at c2
      have f2 := hbl.out.frozen (at_ + i)
      have hwl : D[i] < 4294967296 := HlD.out _ (List.getElem_mem hd)
      have hpl : Pt[i] < 4294967296 := by rw [← hLi]; exact hI.out.low _ (List.getElem_mem hl)
      have Hset := Lib.hid (fun (W : World) (x : Nat) (hW : Blk W g 74 .u32 (A ++ L ++ C)) => hW.midset i x hl)
      rw [HA.out] at Hset
      generalize D[i] = wd at *
      generalize Pt[i] = pp at *
      have hmm : Q * wd ≤ 4294967295 * 4294967295 := Nat.mul_le_mul (by omega) (by omega)
      obtain ⟨M, hM⟩ : ∃ M, Q * wd = M := ⟨_, rfl⟩
      have hMI : (Q : Int) * (wd : Int) = (M : Int) := by rw [← hM, Int.natCast_mul]
      rw [hM] at hmm ht HN
      obtain ⟨t, htt⟩ : ∃ t, c + M = t := ⟨_, rfl⟩
      rw [htt] at ht HN
      have htI : (c : Int) + (M : Int) = (t : Int) := by omega
      have hand := and_mask t ht
      obtain ⟨lo, hlo⟩ : ∃ lo, t % 4294967296 = lo := ⟨_, rfl⟩
      have hlo' : t % W2 = lo := hlo
      rw [hlo] at hand
      rw [hlo'] at HN
      have hlol : lo < 4294967296 := by omega
      obtain ⟨c', hc'⟩ : ∃ c', t / 4294967296 = c' := ⟨_, rfl⟩
      have hc'' : t / W2 = c' := hc'
      rw [hc''] at HN
      have hcI : (t : Int) / 4294967296 = (c' : Int) := by omega
      obtain ⟨T, hT⟩ : ∃ T : Int, T = ((pp : Int) - lo) % 18446744073709551616 := ⟨_, rfl⟩
      obtain ⟨E, hE⟩ : ∃ E : Int, E = (T - b) % 18446744073709551616 := ⟨_, rfl⟩
      have hdw := Lib.hid (sub_word pp lo b hpl hlol bl T E hT hE)
      have b1 : IntKind.u64.wrap ((pp : Int) - lo) = T := by rw [hT, IntKind.wrap_u64]
      have b2 : IntKind.u64.wrap (T - b) = E := by rw [hE, IntKind.wrap_u64]
      have hT0 : 0 ≤ T := by omega
      have hT1 : T ≤ 18446744073709551615 := by omega
      have hE0 : 0 ≤ E := by omega
      have hE1 : E ≤ 18446744073709551615 := by omega
      clear hT hE hM htt hlo hlo' hc' hc'' hN hLi
      go_wp2_with fail
      go_roundw
      case rel =>
        rw [hdw.out.1, hdw.out.2]
        exact ⟨i + 1, c', brw pp lo b, L.set i (dif pp lo b), by omega, rfl, rfl, by go_num, HN, Lib.hid (Hset.out wr _ hbl.out), Lib.hid (hO.out.set (p := ⟨g, at_ + i, none⟩) rfl _)⟩
      case measure => simp [intOf]; omega
    · obtain rfl : i = n := by omega
      have hp : i < Pt.length := by rw [HP.out]; omega
      have hl : i < L.length := by omega
      have hLi : L[i] = Pt[i] := by
        have h1 := hI.out.rest
        rw [List.drop_eq_getElem_cons hl, List.drop_eq_getElem_cons hp] at h1
        exact (List.cons.inj h1).1
      have c2 := hbl.out.mid i hl
      rw [HA.out, hLi] at c2
      have f2 := hbl.out.frozen (at_ + i)
      have hpl : Pt[i] < 4294967296 := by rw [← hLi]; exact hI.out.low _ (List.getElem_mem hl)
      have Hset := Lib.hid (fun (W : World) (x : Nat) (hW : Blk W g 74 .u32 (A ++ L ++ C)) => hW.midset i x hl)
      rw [HA.out] at Hset
      have Hlast := Lib.hid (fun x f hx => hI.out.last HD.out HP.out hp x f hx)
      have Hlow := Lib.hid hI.out.low
      generalize Pt[i] = pp at *
      obtain ⟨T, hT⟩ : ∃ T : Int, T = ((pp : Int) - c) % 18446744073709551616 := ⟨_, rfl⟩
      obtain ⟨E, hE⟩ : ∃ E : Int, E = (T - b) % 18446744073709551616 := ⟨_, rfl⟩
      have hdw0 := sub_word pp c b hpl cl bl T E hT hE
      have b1 : IntKind.u64.wrap ((pp : Int) - c) = T := by rw [hT, IntKind.wrap_u64]
      have b2 : IntKind.u64.wrap (T - b) = E := by rw [hE, IntKind.wrap_u64]
      have hT0 : 0 ≤ T := by omega
      have hT1 : T ≤ 18446744073709551615 := by omega
      have hE0 : 0 ≤ E := by omega
      have hE1 : E ≤ 18446744073709551615 := by omega
      have hfe := dif_eq pp c b cl bl
      have hdl : dif pp c b < W2 := dif_lt pp c b hpl bl
      have hf1 := brw_le pp c b
      obtain ⟨f, hf⟩ : ∃ f, brw pp c b = f := ⟨_, rfl⟩
      obtain ⟨x, hx⟩ : ∃ x, dif pp c b = x := ⟨_, rfl⟩
      rw [hf, hx] at hdw0
      rw [hx] at hdl hfe
      rw [hf] at hf1 hfe
      have hq1 := hdw0.1
      have hq2 := hdw0.2
      have Hv := Lib.hid (Hlast.out x f (by omega))
      have hres : ∀ W : World, W = wr.setCell ⟨g, at_ + i, none⟩ (.int .u32 (x : Int)) → SubPost g i Q A Pt C D w (.returned (.bool (decide (f = 1)))) W := by
        rintro W rfl
        exact ⟨L.set i x, f, rfl, Hset.out wr x hbl.out, by rw [List.length_set]; exact hLl, low_set Hlow.out _ _ hdl, hf1, Hv.out, hO.out.set (p := ⟨g, at_ + i, none⟩) rfl _⟩
      have Hres := Lib.hid hres
      clear hT hE hf hx hfe hdw0 hLi hres
      rcases (show f = 0 ∨ f = 1 by omega) with rfl | rfl
      · have hq3 : E / 9223372036854775808 = 0 := hq2
        clear hq2
        go_wp2_with fail
        go_ret
        exact Hres.out _ rfl
      · have hq3 : E / 9223372036854775808 = 1 := hq2
        clear hq2
        go_wp2_with fail
        go_ret
        exact Hres.out _ rfl

end Go.Proofs.YtgfgjnkndfgdiaaDoor
