/- wide: restore. -/
import Derived.Test.YtlmbebbdamgfpaaQUWEst
set_option linter.unusedVariables false
set_option linter.unusedSimpArgs false
set_option linter.unusedVariables false
set_option linter.unusedSimpArgs false
namespace Go.Proofs.Ytlmbebbdamgfpaa
open Go.RowKit

theorem mid_get (A P C : List Nat) (i : Nat) (h : i < P.length) (h' : A.length + i < (A ++ P ++ C).length) : (A ++ P ++ C)[A.length + i] = P[i] := by
 rw [List.getElem_append_left (by rw [List.length_append]; omega), List.getElem_append_right (by omega)]
 congr 1
 omega
theorem mid_set (A P C : List Nat) (i x : Nat) (h : i < P.length) : (A ++ P ++ C).set (A.length + i) x = A ++ P.set i x ++ C := by
 rw [List.set_append_left _ _ (by rw [List.length_append]; omega), List.set_append_right _ _ (by omega), Nat.add_sub_cancel_left]

section
variable {w : World} {g : Nat} {A P C : List Nat}
theorem Blk.mid (h : Blk w g 88 .u32 (A ++ P ++ C)) (i : Nat) (hi : i < P.length) : w.cell? ⟨g, A.length + i, none⟩ = some (.int .u32 (P[i] : Int)) := by
 have hl : A.length + i < (A ++ P ++ C).length := by rw [List.length_append, List.length_append]; omega
 have := h.cell (A.length + i) hl
 rw [mid_get A P C i hi hl] at this
 exact this
theorem Blk.midset (h : Blk w g 88 .u32 (A ++ P ++ C)) (i x : Nat) (hi : i < P.length) : Blk (w.setCell ⟨g, A.length + i, none⟩ (.int .u32 (x : Int))) g 88 .u32 (A ++ P.set i x ++ C) := by
 have := h.set (A.length + i) x
 rw [mid_set A P C i x hi] at this
 exact this
end

theorem and_mask (t : Nat) (h : t < 18446744073709551616) : bits BinOp.and IntKind.u64 (t : Int) 4294967295 = ((t % 4294967296 : Nat) : Int) := by
 have h1 := u64_and_nat t 4294967295 h (by omega)
 have h2 : t &&& 4294967295 = t % 4294967296 := Nat.and_two_pow_sub_one_eq_mod t 32
 rw [h2] at h1
 exact h1

theorem sub_word (p lo b : Nat) (hp : p < 4294967296) (hlo : lo < 4294967296) (hb : b ≤ 1) (T D : Int) (hT : T = ((p : Int) - lo) % 18446744073709551616) (hD : D = (T - b) % 18446744073709551616) :
 D % 4294967296 = (dif p lo b : Int) ∧ D / 9223372036854775808 = (brw p lo b : Int) := dif_word p lo b hp hlo hb T D hT hD

/-- what subtract leaves -/
def SubPost (g n Q : Nat) (A Pt C D : List Nat) (w : World) (e : Ending) (w' : World) : Prop :=
 ∃ Pt' f, e = .returned (.bool (decide (f = 1))) ∧ Blk w' g 88 .u32 (A ++ Pt' ++ C) ∧ Pt'.length = n + 1 ∧ Low W2 Pt' ∧ f ≤ 1 ∧ val W2 Pt' + Q * val W2 D = val W2 Pt + f * W2 ^ (n + 1) ∧ Only (fun k => k = g) w w'

set_option maxRecDepth 100000 in
set_option maxHeartbeats 2000000 in
theorem subtract_core (g at_ pc db doff dc n Q : Nat) (A Pt C D : List Nat) (w : World) (hA : A.length = at_) (hP : Pt.length = n + 1) (hD : D.length = n) (hn2 : n ≤ 1048576) (hat : at_ ≤ 1048576) (hpc : n + 1 ≤ pc) (hpc2 : pc ≤ 9223372036854775807) (hdc : n ≤ dc) (hdc2 : dc ≤ 9223372036854775807) (hQ : Q < 4294967296)
 (hblk : Blk w g 88 .u32 (A ++ Pt ++ C)) (lP : Low W2 Pt) (lD : Low W2 D) (hdg : db ≠ g) (hdb : db < w.heap.size) (hdcc : ∀ j (h : j < D.length), w.cell? ⟨db, doff + j, none⟩ = some (.int .u32 (D[j] : Int))) :
 Calls Try.prog 87 #[.slice (some ⟨g, at_, none⟩) (n + 1) pc, .slice (some ⟨db, doff, none⟩) n dc, .int .u64 (Q : Int)] w (SubPost g n Q A Pt C D w) := by
 have HB := Lib.hid hblk
 have HlD := Lib.hid lD
 have Hdc := Lib.hid hdcc
 have HA := Lib.hid hA
 have HP := Lib.hid hP
 have HD := Lib.hid hD
 have HI0 := Lib.hid (SubI.start Pt D Q lP)
 clear hblk lP lD hdcc hA hP hD
 go_enter Try.func87, Try.ntmps87
 go_wp2_with fail
 go_loopw [8, 9, 18] (fun cv bv iv' wr => ∃ (i c b : Nat) (L : List Nat), i ≤ n ∧ cv = .int .u64 (c : Int) ∧ bv = .int .u64 (b : Int) ∧ iv' = .int .i64 (i : Int) ∧ Hid (SubI Pt D Q i c b L) ∧ Hid (Blk wr g 88 .u32 (A ++ L ++ C)) ∧ Hid (Only (fun k => k = g) w wr)) (fun _ _ v _ => n - (intOf v).toNat)
 case atStart => exact ⟨0, 0, 0, Pt, by omega, rfl, rfl, rfl, HI0, HB, Lib.hid (Only.refl _ _)⟩
 case round =>
  obtain ⟨i, c, b, L, hi, rfl, rfl, rfl, hI, hbl, hO⟩ := hrel
  have cl : c < 4294967296 := hI.out.cl
  have bl : b ≤ 1 := hI.out.bl
  have hLl : L.length = n + 1 := by rw [hI.out.len, HP.out]
  by_cases hlt : i < n
  ·have hd : i < D.length := by rw [HD.out]; exact hlt
   have hp : i < Pt.length := by rw [HP.out]; omega
   have hl : i < L.length := by omega
   obtain ⟨hN, hLi, ht⟩ := hI.out.next hl hd hQ HlD.out hp
   have HN := Lib.hid hN
   have c1 := (hO.out.cell (p := ⟨db, doff + i, none⟩) hdg hdb).trans (Hdc.out i hd)
   have c2 := hbl.out.mid i hl
   rw [HA.out, hLi] at c2
   have f2 := hbl.out.frozen (at_ + i)
   have hwl : D[i] < 4294967296 := HlD.out _ (List.getElem_mem hd)
   have hpl : Pt[i] < 4294967296 := by rw [← hLi]; exact hI.out.low _ (List.getElem_mem hl)
   have Hset := Lib.hid (fun (W : World) (x : Nat) (hW : Blk W g 88 .u32 (A ++ L ++ C)) => hW.midset i x hl)
   rw [HA.out] at Hset
   generalize D[i] = wd at *
   generalize Pt[i] = pp at *
   have hmm : Q * wd ≤ 4294967295 * 4294967295 := Nat.mul_le_mul (by omega) (by omega)
   obtain ⟨M, hM⟩ : ∃ M, Q * wd = M := ⟨_, rfl⟩
   have hMI : (Q : Int) * (wd : Int) = (M : Int) := by rw [← hM, Int.natCast_mul]
   rw [hM] at hmm ht HN
   obtain ⟨t, htt⟩ : ∃ t, c + M = t := ⟨_, rfl⟩
   rw [htt] at ht HN
   have htI : (c : Int) + (M : Int) = (t : Int) := by omega
   have hand := and_mask t ht
   obtain ⟨lo, hlo⟩ : ∃ lo, t % 4294967296 = lo := ⟨_, rfl⟩
   have hlo' : t % W2 = lo := hlo
   rw [hlo] at hand
   rw [hlo'] at HN
   have hlol : lo < 4294967296 := by omega
   obtain ⟨c', hc'⟩ : ∃ c', t / 4294967296 = c' := ⟨_, rfl⟩
   have hc'' : t / W2 = c' := hc'
   rw [hc''] at HN
   have hcI : (t : Int) / 4294967296 = (c' : Int) := by omega
   obtain ⟨T, hT⟩ : ∃ T : Int, T = ((pp : Int) - lo) % 18446744073709551616 := ⟨_, rfl⟩
   obtain ⟨E, hE⟩ : ∃ E : Int, E = (T - b) % 18446744073709551616 := ⟨_, rfl⟩
   have hdw := Lib.hid (sub_word pp lo b hpl hlol bl T E hT hE)
   have b1 : IntKind.u64.wrap ((pp : Int) - lo) = T := by rw [hT, IntKind.wrap_u64]
   have b2 : IntKind.u64.wrap (T - b) = E := by rw [hE, IntKind.wrap_u64]
   have hT0 : 0 ≤ T := by omega
   have hT1 : T ≤ 18446744073709551615 := by omega
   have hE0 : 0 ≤ E := by omega
   have hE1 : E ≤ 18446744073709551615 := by omega
   clear hT hE hM htt hlo hlo' hc' hc'' hN hLi
   go_wp2_with fail
   go_roundw
   case rel =>
    rw [hdw.out.1, hdw.out.2]
    exact ⟨i + 1, c', brw pp lo b, L.set i (dif pp lo b), by omega, rfl, rfl, by go_num, HN, Lib.hid (Hset.out wr _ hbl.out), Lib.hid (hO.out.set (p := ⟨g, at_ + i, none⟩) rfl _)⟩
   case measure => simp [intOf]; omega
  ·obtain rfl : i = n := by omega
   have hp : i < Pt.length := by rw [HP.out]; omega
   have hl : i < L.length := by omega
   have hLi : L[i] = Pt[i] := by
    have h1 := hI.out.rest
    rw [List.drop_eq_getElem_cons hl, List.drop_eq_getElem_cons hp] at h1
    exact (List.cons.inj h1).1
   have c2 := hbl.out.mid i hl
   rw [HA.out, hLi] at c2
   have f2 := hbl.out.frozen (at_ + i)
   have hpl : Pt[i] < 4294967296 := by rw [← hLi]; exact hI.out.low _ (List.getElem_mem hl)
   have Hset := Lib.hid (fun (W : World) (x : Nat) (hW : Blk W g 88 .u32 (A ++ L ++ C)) => hW.midset i x hl)
   rw [HA.out] at Hset
   have Hlast := Lib.hid (fun x f hx => hI.out.last HD.out HP.out hp x f hx)
   have Hlow := Lib.hid hI.out.low
   generalize Pt[i] = pp at *
   obtain ⟨T, hT⟩ : ∃ T : Int, T = ((pp : Int) - c) % 18446744073709551616 := ⟨_, rfl⟩
   obtain ⟨E, hE⟩ : ∃ E : Int, E = (T - b) % 18446744073709551616 := ⟨_, rfl⟩
   have hdw0 := sub_word pp c b hpl cl bl T E hT hE
   have b1 : IntKind.u64.wrap ((pp : Int) - c) = T := by rw [hT, IntKind.wrap_u64]
   have b2 : IntKind.u64.wrap (T - b) = E := by rw [hE, IntKind.wrap_u64]
   have hT0 : 0 ≤ T := by omega
   have hT1 : T ≤ 18446744073709551615 := by omega
   have hE0 : 0 ≤ E := by omega
   have hE1 : E ≤ 18446744073709551615 := by omega
   have hfe := dif_eq pp c b cl bl
   have hdl : dif pp c b < W2 := dif_lt pp c b hpl bl
   have hf1 := brw_le pp c b
   obtain ⟨f, hf⟩ : ∃ f, brw pp c b = f := ⟨_, rfl⟩
   obtain ⟨x, hx⟩ : ∃ x, dif pp c b = x := ⟨_, rfl⟩
   rw [hf, hx] at hdw0
   rw [hx] at hdl hfe
   rw [hf] at hf1 hfe
   have hq1 := hdw0.1
   have hq2 := hdw0.2
   have Hv := Lib.hid (Hlast.out x f (by omega))
   have hres : ∀ W : World, W = wr.setCell ⟨g, at_ + i, none⟩ (.int .u32 (x : Int)) → SubPost g i Q A Pt C D w (.returned (.bool (decide (f = 1)))) W := by
    rintro W rfl
    exact ⟨L.set i x, f, rfl, Hset.out wr x hbl.out, by rw [List.length_set]; exact hLl, low_set Hlow.out _ _ hdl, hf1, Hv.out, hO.out.set (p := ⟨g, at_ + i, none⟩) rfl _⟩
   have Hres := Lib.hid hres
   clear hT hE hf hx hfe hdw0 hLi hres
   rcases (show f = 0 ∨ f = 1 by omega) with rfl | rfl
   ·have hq3 : E / 9223372036854775808 = 0 := hq2
    clear hq2
    go_wp2_with fail
    go_ret
    exact Hres.out _ rfl
   ·have hq3 : E / 9223372036854775808 = 1 := hq2
    clear hq2
    go_wp2_with fail
    go_ret
    exact Hres.out _ rfl

end Go.Proofs.Ytlmbebbdamgfpaa
set_option linter.unusedVariables false
set_option linter.unusedSimpArgs false
namespace Go.Proofs.Ytlmbebbdamgfpaa
open Go.RowKit

set_option maxHeartbeats 1000000 in
theorem rpass_any (i n at_ g cb sb c x pc : Nat) (A P C : List Nat) (w : World) (hA : A.length = at_) (hP : P.length = n + 1) (hi : i < P.length) (hn : n ≤ 1048576) (hat : at_ ≤ 1048576) (hpc : n + 1 ≤ pc) (hpc2 : pc ≤ 9223372036854775807) (hblk : Blk w g 88 .u32 (A ++ P ++ C)) (hcb : One w cb 85 (.int .u64 (c : Int))) (hsb : One w sb 56 (.slice (some ⟨g, at_, none⟩) (n + 1) pc))
 (h1 : cb ≠ g) (h2 : sb ≠ g) (h3 : sb ≠ cb) (hc : c ≤ 1) (hx : x < 4294967296) (hlow : Low W2 P) :
 Calls Try.prog 103 #[.int .i64 (i : Int), .int .u32 (x : Int), .pointer (some ⟨cb, 0, none⟩), .pointer (some ⟨sb, 0, none⟩)] w fun e w' => (∃ v, e = .returned v) ∧
  Blk w' g 88 .u32 (A ++ P.set i ((c + (P[i] + x)) % W2) ++ C) ∧ One w' cb 85 (.int .u64 (((c + (P[i] + x)) / W2 : Nat) : Int)) ∧ One w' sb 56 (.slice (some ⟨g, at_, none⟩) (n + 1) pc) ∧ Only (fun k => k = g ∨ k = cb) w w' := by
 have Hblk := Lib.hid hblk
 have Hcb := Lib.hid hcb
 have Hsb := Lib.hid hsb
 have e1 := hblk.mid i hi
 rw [hA] at e1
 have e2 := hblk.frozen (at_ + i)
 have e3 := hcb.cell
 have e4 := hcb.frozen
 have e5 := hsb.cell
 have hs : P[i] < 4294967296 := hlow _ (List.getElem_mem hi)
 have Hset := Lib.hid (fun (W : World) (y : Nat) (hW : Blk W g 88 .u32 (A ++ P ++ C)) => hW.midset i y hi)
 rw [hA] at Hset
 have hi2 : i < n + 1 := by omega
 clear hblk hcb hsb hlow hA hP
 generalize hS : P[i] = s at *
 clear hS
 have b1 : IntKind.u64.wrap ((s : Int) + x) = (s : Int) + x := IntWalk.u64_in _ (by omega)
 have b2 : IntKind.u64.wrap ((c : Int) + ((s : Int) + x)) = (c : Int) + ((s : Int) + x) := IntWalk.u64_in _ (by omega)
 go_enter Try.func103, Try.ntmps103
 go_wp2
 go_region
 go_wp2
 go_end0
 have hr : (((c + (s + x)) % W2 : Nat) : Int) = ((c : Int) + ((s : Int) + x)) % 4294967296 := by simp
 have hq : (((c + (s + x)) / W2 : Nat) : Int) = ((c : Int) + ((s : Int) + x)) / 4294967296 := by simp
 rw [← hr, ← hq]
 refine ⟨⟨_, rfl⟩, ?_, ?_, ?_, ?_⟩
 ·first | exact ((Hset.out _ ((c + (s + x)) % W2) (Hblk.out.far (p := ⟨cb, 0, none⟩) (Ne.symm h1) _)).far (p := ⟨cb, 0, none⟩) (Ne.symm h1) _).drew | (rw [← List.append_assoc]; exact ((Hset.out _ ((c + (s + x)) % W2) (Hblk.out.far (p := ⟨cb, 0, none⟩) (Ne.symm h1) _)).far (p := ⟨cb, 0, none⟩) (Ne.symm h1) _).drew)
 ·exact ((((Hcb.out.set _).far (p := ⟨g, at_ + i, none⟩) h1 _).set _)).drew
 ·exact (((Hsb.out.far (p := ⟨cb, 0, none⟩) h3 _).far (p := ⟨g, at_ + i, none⟩) h2 _).far (p := ⟨cb, 0, none⟩) h3 _).drew
 ·exact ((((Only.refl _ w).set (p := ⟨cb, 0, none⟩) (Or.inr rfl) _).set (p := ⟨g, at_ + i, none⟩) (Or.inl rfl) _).set (p := ⟨cb, 0, none⟩) (Or.inr rfl) _).drew

/-- after i words of restore -/
structure RestI (P D : List Nat) (i c : Nat) (L : List Nat) : Prop where
 len : L.length = P.length
 low : Low W2 L
 cl : c ≤ 1
 eq : val W2 L + c * W2 ^ i = val W2 P + val W2 (D.take i)

theorem RestI.start (P D : List Nat) (hP : Low W2 P) : RestI P D 0 0 P := ⟨rfl, hP, by omega, by simp [val]⟩

theorem carry_le (c s x : Nat) (hc : c ≤ 1) (hs : s < W2) (hx : x < W2) : (c + (s + x)) / W2 ≤ 1 := by
 have : (c + (s + x)) / W2 < 2 := (Nat.div_lt_iff_lt_mul (by decide)).2 (by unfold W2 at *; omega)
 omega

theorem RestI.next {P D : List Nat} {i c : Nat} {L : List Nat} (h : RestI P D i c L) (hl : i < L.length) (hd : i < D.length) (lD : Low W2 D) :
 RestI P D (i + 1) ((c + (L[i] + D[i])) / W2) (L.set i ((c + (L[i] + D[i])) % W2)) := by
 refine ⟨by rw [List.length_set]; exact h.len, low_set h.low _ _ (Nat.mod_lt _ (by decide)), carry_le _ _ _ h.cl (h.low _ (List.getElem_mem hl)) (lD _ (List.getElem_mem hd)), ?_⟩
 rw [pass_step L i c D[i] hl, val_take_succ W2 D i hd, Nat.add_mul]
 have := h.eq
 omega

theorem RestI.last {P D : List Nat} {n c : Nat} {L : List Nat} (h : RestI P D n c L) (hl : n < L.length) (hD : D.length = n) :
 val W2 (L.set n ((c + (L[n] + 0)) % W2)) + (c + (L[n] + 0)) / W2 * W2 ^ (n + 1) = val W2 P + val W2 D := by
 rw [pass_step L n c 0 hl, Nat.add_zero]
 have := h.eq
 rw [List.take_of_length_le (by omega)] at this
 exact this

/-- what restore leaves -/
def RestPost (g n : Nat) (A Pt C D : List Nat) (w : World) (e : Ending) (w' : World) : Prop :=
 ∃ Pt' f, e = .returned (.bool (decide (f = 1))) ∧ Blk w' g 88 .u32 (A ++ Pt' ++ C) ∧ Pt'.length = n + 1 ∧ Low W2 Pt' ∧ f ≤ 1 ∧ val W2 Pt' + f * W2 ^ (n + 1) = val W2 Pt + val W2 D ∧ Only (fun k => k = g) w w'

set_option maxRecDepth 100000 in
set_option maxHeartbeats 2000000 in
theorem restore_core (g at_ pc db doff dc n : Nat) (A Pt C D : List Nat) (w : World) (hA : A.length = at_) (hP : Pt.length = n + 1) (hD : D.length = n) (hn2 : n ≤ 1048576) (hat : at_ ≤ 1048576) (hpc : n + 1 ≤ pc) (hpc2 : pc ≤ 9223372036854775807) (hdc : n ≤ dc) (hdc2 : dc ≤ 9223372036854775807)
 (hblk : Blk w g 88 .u32 (A ++ Pt ++ C)) (lP : Low W2 Pt) (lD : Low W2 D) (hdg : db ≠ g) (hdb : db < w.heap.size) (hdcc : ∀ j (h : j < D.length), w.cell? ⟨db, doff + j, none⟩ = some (.int .u32 (D[j] : Int))) :
 Calls Try.prog 88 #[.slice (some ⟨g, at_, none⟩) (n + 1) pc, .slice (some ⟨db, doff, none⟩) n dc] w (RestPost g n A Pt C D w) := by
 have HB := Lib.hid hblk
 have HlD := Lib.hid lD
 have Hdc := Lib.hid hdcc
 have HA := Lib.hid hA
 have HP := Lib.hid hP
 have HD := Lib.hid hD
 have HI0 := Lib.hid (RestI.start Pt D lP)
 have hgl := hblk.lt
 clear hblk lP lD hdcc hA hP hD
 obtain ⟨sb, hsb⟩ : ∃ sb, w.heap.size = sb := ⟨_, rfl⟩
 have Hsb := Lib.hid hsb
 obtain ⟨w4, hw4⟩ : ∃ w4, (w.alloc (.cells #[.slice (some ⟨g, at_, none⟩) (n + 1) pc] 56)).alloc (.cells #[.int .u64 0] 85) = w4 := ⟨_, rfl⟩
 have hcb0 := One.new (w.alloc (.cells #[.slice (some ⟨g, at_, none⟩) (n + 1) pc] 56)) 85 (.int .u64 0)
 have hsb0 := (One.new w 56 (.slice (some ⟨g, at_, none⟩) (n + 1) pc)).alloc (.cells #[.int .u64 0] 85)
 rw [World.size_alloc, hsb, hw4] at hcb0
 rw [hsb, hw4] at hsb0
 have Hb4 := Lib.hid ((HB.out.alloc (.cells #[.slice (some ⟨g, at_, none⟩) (n + 1) pc] 56)).alloc (.cells #[.int .u64 0] 85))
 have HO4 : Hid (Only (fun k => k = g ∨ k = sb + 1) w w4) := Lib.hid (by rw [← hw4]; exact Only.of_below (((Below.refl w.heap.size w).alloc (Nat.le_refl _) _).alloc (by simp) _))
 rw [hw4] at Hb4
 have Hcb4 := Lib.hid hcb0
 have Hsb4 := Lib.hid hsb0
 have hgs : g < sb := by omega
 have hds : db < sb := by omega
 clear hcb0 hsb0
 go_enter Try.func88, Try.ntmps88
 go_wp2_with fail
 clear hw4 hsb
 go_loopw [15] (fun i wr => ∃ (k c : Nat) (L : List Nat), k ≤ n ∧ i = .int .i64 k ∧ Hid (RestI Pt D k c L) ∧ Hid (Blk wr g 88 .u32 (A ++ L ++ C)) ∧ Hid (One wr (sb + 1) 85 (.int .u64 (c : Int))) ∧ Hid (One wr sb 56 (.slice (some ⟨g, at_, none⟩) (n + 1) pc)) ∧ Hid (Only (fun k => k = g ∨ k = sb + 1) w wr)) (fun i _ => n - (intOf i).toNat)
 case atStart => exact ⟨0, 0, Pt, by omega, rfl, HI0, Hb4, Hcb4, Hsb4, HO4⟩
 case round =>
  obtain ⟨k, c, L, hk, rfl, hI, hbl, hcb, hsb, hO⟩ := hrel
  have hLl : L.length = n + 1 := by rw [hI.out.len, HP.out]
  have hc1 := hI.out.cl
  by_cases hlt : k < n
  ·have hd : k < D.length := by rw [HD.out]; exact hlt
   have hl : k < L.length := by omega
   have c1 := (hO.out.cell (p := ⟨db, doff + k, none⟩) (by show ¬ (db = g ∨ db = sb + 1); omega) (by show db < w.heap.size; exact hdb)).trans (Hdc.out k hd)
   have hyl : D[k] < 4294967296 := HlD.out _ (List.getElem_mem hd)
   have Hnext := Lib.hid (hI.out.next hl hd HlD.out)
   have Hp := Lib.hid (rpass_any k n at_ g (sb + 1) sb c D[k] pc A L C wr HA.out hLl hl hn2 hat hpc hpc2 hbl.out hcb.out hsb.out (by omega) (by omega) (by omega) hc1 hyl hI.out.low)
   generalize D[k] = y at *
   go_wp2_with (go_at_call 103; refine Hp.out.mono ?_; rintro e w5 ⟨⟨v5, rfl⟩, q1, q2, q3, q4⟩; have Q1 := Lib.hid q1; have Q2 := Lib.hid q2; have Q3 := Lib.hid q3; have Q4 := Lib.hid q4; clear q1 q2 q3 q4)
   go_roundw
   case rel => exact ⟨k + 1, _, _, by omega, by go_num, Hnext, Q1, Q2, Q3, Lib.hid (hO.out.trans Q4.out)⟩
   case measure => simp [intOf]; omega
  ·obtain rfl : k = n := by omega
   have hl : k < L.length := by omega
   have Hlast := Lib.hid (hI.out.last hl HD.out)
   have Hp := Lib.hid (rpass_any k k at_ g (sb + 1) sb c 0 pc A L C wr HA.out hLl hl hn2 hat hpc hpc2 hbl.out hcb.out hsb.out (by omega) (by omega) (by omega) hc1 (by omega) hI.out.low)
   have Hcl := Lib.hid (carry_le c L[k] 0 hc1 (hI.out.low _ (List.getElem_mem hl)) (by decide))
   have Hlow := Lib.hid (low_set hI.out.low k ((c + (L[k] + 0)) % W2) (Nat.mod_lt _ (by decide)))
   clear hlt
   obtain ⟨f, hf⟩ : ∃ f, (c + (L[k] + 0)) / W2 = f := ⟨_, rfl⟩
   obtain ⟨x, hx⟩ : ∃ x, (c + (L[k] + 0)) % W2 = x := ⟨_, rfl⟩
   rw [hf, hx] at Hlast Hp
   rw [hf] at Hcl
   rw [hx] at Hlow
   clear hf hx
   go_wp2_with (go_at_call 103; refine Hp.out.mono ?_; rintro e w5 ⟨⟨v5, rfl⟩, q1, q2, q3, q4⟩; have Q1 := Lib.hid q1; have Q2 := Lib.hid q2; have Q3 := Lib.hid q3; have Q4 := Lib.hid q4; have qc := q2.cell; clear q1 q2 q3 q4)
   go_ret
   have hf1 := Hcl.out
   refine ⟨L.set k x, f, ?_, Q1.out, by rw [List.length_set]; exact hLl, Hlow.out, hf1, Hlast.out, ?_⟩
   ·have : decide (0 < f) = decide (f = 1) := decide_eq_decide.2 (by omega)
    rw [← this]
    rfl
   ·have hO2 := hO.out.trans Q4.out
    exact ⟨hO2.os, hO2.tape, hO2.output, hO2.size, fun b hb hne => hO2.block b hb (fun h => by
     rcases h with h | h
     ·exact hne h
     ·have := Hsb.out; omega)⟩

end Go.Proofs.Ytlmbebbdamgfpaa
