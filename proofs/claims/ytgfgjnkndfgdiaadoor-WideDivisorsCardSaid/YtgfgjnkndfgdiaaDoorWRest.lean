/- wide: restore. -/
import Derived.Test.YtgfgjnkndfgdiaaDoorWSubtr
set_option linter.unusedVariables false
set_option linter.unusedSimpArgs false
namespace Go.Proofs.YtgfgjnkndfgdiaaDoor
open Go.RowKit

set_option maxHeartbeats 1000000 in
theorem rpass_any (i n at_ g cb sb c x pc : Nat) (A P C : List Nat) (w : World) (hA : A.length = at_) (hP : P.length = n + 1) (hi : i < P.length) (hn : n ≤ 1048576) (hat : at_ ≤ 1048576) (hpc : n + 1 ≤ pc) (hpc2 : pc ≤ 9223372036854775807) (hblk : Blk w g 74 .u32 (A ++ P ++ C)) (hcb : One w cb 89 (.int .u64 (c : Int))) (hsb : One w sb 31 (.slice (some ⟨g, at_, none⟩) (n + 1) pc))
    (h1 : cb ≠ g) (h2 : sb ≠ g) (h3 : sb ≠ cb) (hc : c ≤ 1) (hx : x < 4294967296) (hlow : Low W2 P) :
    Calls Tryd.prog 95 #[.int .i64 (i : Int), .int .u32 (x : Int), .pointer (some ⟨cb, 0, none⟩), .pointer (some ⟨sb, 0, none⟩)] w fun e w' => (∃ v, e = .returned v) ∧
      Blk w' g 74 .u32 (A ++ P.set i ((c + (P[i] + x)) % W2) ++ C) ∧ One w' cb 89 (.int .u64 (((c + (P[i] + x)) / W2 : Nat) : Int)) ∧ One w' sb 31 (.slice (some ⟨g, at_, none⟩) (n + 1) pc) ∧ Only (fun k => k = g ∨ k = cb) w w' := by
  have Hblk := Lib.hid hblk
  have Hcb := Lib.hid hcb
  have Hsb := Lib.hid hsb
  have e1 := hblk.mid i hi
  rw [hA] at e1
  have e2 := hblk.frozen (at_ + i)
  have e3 := hcb.cell
  have e4 := hcb.frozen
  have e5 := hsb.cell
  have hs : P[i] < 4294967296 := hlow _ (List.getElem_mem hi)
  have Hset := Lib.hid (fun (W : World) (y : Nat) (hW : Blk W g 74 .u32 (A ++ P ++ C)) => hW.midset i y hi)
  rw [hA] at Hset
  have hi2 : i < n + 1 := by omega
  clear hblk hcb hsb hlow hA hP
  generalize hS : P[i] = s at *
  clear hS
  have b1 : IntKind.u64.wrap ((s : Int) + x) = (s : Int) + x := IntWalk.u64_in _ (by omega)
  have b2 : IntKind.u64.wrap ((c : Int) + ((s : Int) + x)) = (c : Int) + ((s : Int) + x) := IntWalk.u64_in _ (by omega)
  go_enter Tryd.func95, Tryd.ntmps95
  go_wp2
  go_region
  go_wp2
  go_end0
  have hr : (((c + (s + x)) % W2 : Nat) : Int) = ((c : Int) + ((s : Int) + x)) % 4294967296 := by simp
  have hq : (((c + (s + x)) / W2 : Nat) : Int) = ((c : Int) + ((s : Int) + x)) / 4294967296 := by simp
  rw [← hr, ← hq]
  refine ⟨⟨_, rfl⟩, ?_, ?_, ?_, ?_⟩
  · first | exact ((Hset.out _ ((c + (s + x)) % W2) (Hblk.out.far (p := ⟨cb, 0, none⟩) (Ne.symm h1) _)).far (p := ⟨cb, 0, none⟩) (Ne.symm h1) _).drew | (rw [← List.append_assoc]; exact ((Hset.out _ ((c + (s + x)) % W2) (Hblk.out.far (p := ⟨cb, 0, none⟩) (Ne.symm h1) _)).far (p := ⟨cb, 0, none⟩) (Ne.symm h1) _).drew)
  · exact ((((Hcb.out.set _).far (p := ⟨g, at_ + i, none⟩) h1 _).set _)).drew
  · exact (((Hsb.out.far (p := ⟨cb, 0, none⟩) h3 _).far (p := ⟨g, at_ + i, none⟩) h2 _).far (p := ⟨cb, 0, none⟩) h3 _).drew
  · exact ((((Only.refl _ w).set (p := ⟨cb, 0, none⟩) (Or.inr rfl) _).set (p := ⟨g, at_ + i, none⟩) (Or.inl rfl) _).set (p := ⟨cb, 0, none⟩) (Or.inr rfl) _).drew

/-- after i words of restore -/
structure RestI (P D : List Nat) (i c : Nat) (L : List Nat) : Prop where
  len : L.length = P.length
  low : Low W2 L
  cl : c ≤ 1
  eq : val W2 L + c * W2 ^ i = val W2 P + val W2 (D.take i)

theorem RestI.start (P D : List Nat) (hP : Low W2 P) : RestI P D 0 0 P := ⟨rfl, hP, by omega, by simp [val]⟩

theorem carry_le (c s x : Nat) (hc : c ≤ 1) (hs : s < W2) (hx : x < W2) : (c + (s + x)) / W2 ≤ 1 := by
  have : (c + (s + x)) / W2 < 2 := (Nat.div_lt_iff_lt_mul (by decide)).2 (by unfold W2 at *; omega)
  omega

theorem RestI.next {P D : List Nat} {i c : Nat} {L : List Nat} (h : RestI P D i c L) (hl : i < L.length) (hd : i < D.length) (lD : Low W2 D) :
    RestI P D (i + 1) ((c + (L[i] + D[i])) / W2) (L.set i ((c + (L[i] + D[i])) % W2)) := by
  refine ⟨by rw [List.length_set]; exact h.len, low_set h.low _ _ (Nat.mod_lt _ (by decide)), carry_le _ _ _ h.cl (h.low _ (List.getElem_mem hl)) (lD _ (List.getElem_mem hd)), ?_⟩
  rw [pass_step L i c D[i] hl, val_take_succ W2 D i hd, Nat.add_mul]
  have := h.eq
  omega

theorem RestI.last {P D : List Nat} {n c : Nat} {L : List Nat} (h : RestI P D n c L) (hl : n < L.length) (hD : D.length = n) :
    val W2 (L.set n ((c + (L[n] + 0)) % W2)) + (c + (L[n] + 0)) / W2 * W2 ^ (n + 1) = val W2 P + val W2 D := by
  rw [pass_step L n c 0 hl, Nat.add_zero]
  have := h.eq
  rw [List.take_of_length_le (by omega)] at this
  exact this

/-- what restore leaves -/
def RestPost (g n : Nat) (A Pt C D : List Nat) (w : World) (e : Ending) (w' : World) : Prop :=
  ∃ Pt' f, e = .returned (.bool (decide (f = 1))) ∧ Blk w' g 74 .u32 (A ++ Pt' ++ C) ∧ Pt'.length = n + 1 ∧ Low W2 Pt' ∧ f ≤ 1 ∧ val W2 Pt' + f * W2 ^ (n + 1) = val W2 Pt + val W2 D ∧ Only (fun k => k = g) w w'

set_option maxRecDepth 100000 in
set_option maxHeartbeats 2000000 in
theorem restore_core (g at_ pc db doff dc n : Nat) (A Pt C D : List Nat) (w : World) (hA : A.length = at_) (hP : Pt.length = n + 1) (hD : D.length = n) (hn2 : n ≤ 1048576) (hat : at_ ≤ 1048576) (hpc : n + 1 ≤ pc) (hpc2 : pc ≤ 9223372036854775807) (hdc : n ≤ dc) (hdc2 : dc ≤ 9223372036854775807)
    (hblk : Blk w g 74 .u32 (A ++ Pt ++ C)) (lP : Low W2 Pt) (lD : Low W2 D) (hdg : db ≠ g) (hdb : db < w.heap.size) (hdcc : ∀ j (h : j < D.length), w.cell? ⟨db, doff + j, none⟩ = some (.int .u32 (D[j] : Int))) :
    Calls Tryd.prog 81 #[.slice (some ⟨g, at_, none⟩) (n + 1) pc, .slice (some ⟨db, doff, none⟩) n dc] w (RestPost g n A Pt C D w) := by
  have HB := Lib.hid hblk
  have HlD := Lib.hid lD
  have Hdc := Lib.hid hdcc
  have HA := Lib.hid hA
  have HP := Lib.hid hP
  have HD := Lib.hid hD
  have HI0 := Lib.hid (RestI.start Pt D lP)
  have hgl := hblk.lt
  clear hblk lP lD hdcc hA hP hD
  obtain ⟨sb, hsb⟩ : ∃ sb, w.heap.size = sb := ⟨_, rfl⟩
  have Hsb := Lib.hid hsb
  obtain ⟨w4, hw4⟩ : ∃ w4, (w.alloc (.cells #[.slice (some ⟨g, at_, none⟩) (n + 1) pc] 31)).alloc (.cells #[.int .u64 0] 89) = w4 := ⟨_, rfl⟩
  have hcb0 := One.new (w.alloc (.cells #[.slice (some ⟨g, at_, none⟩) (n + 1) pc] 31)) 89 (.int .u64 0)
  have hsb0 := (One.new w 31 (.slice (some ⟨g, at_, none⟩) (n + 1) pc)).alloc (.cells #[.int .u64 0] 89)
  rw [World.size_alloc, hsb, hw4] at hcb0
  rw [hsb, hw4] at hsb0
  have Hb4 := Lib.hid ((HB.out.alloc (.cells #[.slice (some ⟨g, at_, none⟩) (n + 1) pc] 31)).alloc (.cells #[.int .u64 0] 89))
  have HO4 : Hid (Only (fun k => k = g ∨ k = sb + 1) w w4) := Lib.hid (by rw [← hw4]; exact Only.of_below (((Below.refl w.heap.size w).alloc (Nat.le_refl _) _).alloc (by simp) _))
  rw [hw4] at Hb4
  have Hcb4 := Lib.hid hcb0
  have Hsb4 := Lib.hid hsb0
  have hgs : g < sb := by omega
  have hds : db < sb := by omega
  clear hcb0 hsb0
  go_enter Tryd.func81, Tryd.ntmps81
  go_wp2_with fail
  clear hw4 hsb
  go_loopw [15] (fun i wr => ∃ (k c : Nat) (L : List Nat), k ≤ n ∧ i = .int .i64 k ∧ Hid (RestI Pt D k c L) ∧ Hid (Blk wr g 74 .u32 (A ++ L ++ C)) ∧ Hid (One wr (sb + 1) 89 (.int .u64 (c : Int))) ∧ Hid (One wr sb 31 (.slice (some ⟨g, at_, none⟩) (n + 1) pc)) ∧ Hid (Only (fun k => k = g ∨ k = sb + 1) w wr)) (fun i _ => n - (intOf i).toNat)
  case atStart => exact ⟨0, 0, Pt, by omega, rfl, HI0, Hb4, Hcb4, Hsb4, HO4⟩
  case round =>
    obtain ⟨k, c, L, hk, rfl, hI, hbl, hcb, hsb, hO⟩ := hrel
    have hLl : L.length = n + 1 := by rw [hI.out.len, HP.out]
    have hc1 := hI.out.cl
    by_cases hlt : k < n
    · have hd : k < D.length := by rw [HD.out]; exact hlt
      have hl : k < L.length := by omega
      have c1 := (hO.out.cell (p := ⟨db, doff + k, none⟩) (by show ¬ (db = g ∨ db = sb + 1); omega) (by show db < w.heap.size; exact hdb)).trans (Hdc.out k hd)
      have hyl : D[k] < 4294967296 := HlD.out _ (List.getElem_mem hd)
      have Hnext := Lib.hid (hI.out.next hl hd HlD.out)
      have Hp := Lib.hid (rpass_any k n at_ g (sb + 1) sb c D[k] pc A L C wr HA.out hLl hl hn2 hat hpc hpc2 hbl.out hcb.out hsb.out (by omega) (by omega) (by omega) hc1 hyl hI.out.low)
      generalize D[k] = y at *
      go_wp2_with (go_at_call 95; refine Hp.out.mono ?_; rintro e w5 ⟨⟨v5, rfl⟩, q1, q2, q3, q4⟩; have Q1 := Lib.hid q1; have Q2 := Lib.hid q2; have Q3 := Lib.hid q3; have Q4 := Lib.hid q4; clear q1 q2 q3 q4)
      go_roundw
      case rel => exact ⟨k + 1, _, _, by omega, by go_num, Hnext, Q1, Q2, Q3, Lib.hid (hO.out.trans Q4.out)⟩
      case measure => simp [intOf]; omega
    · obtain rfl : k = n := by omega
      have hl : k < L.length := by omega
      have Hlast := Lib.hid (hI.out.last hl HD.out)
      have Hp := Lib.hid (rpass_any k k at_ g (sb + 1) sb c 0 pc A L C wr HA.out hLl hl hn2 hat hpc hpc2 hbl.out hcb.out hsb.out (by omega) (by omega) (by omega) hc1 (by omega) hI.out.low)
      have Hcl := Lib.hid (carry_le c L[k] 0 hc1 (hI.out.low _ (List.getElem_mem hl)) (by decide))
      have Hlow := Lib.hid (low_set hI.out.low k ((c + (L[k] + 0)) % W2) (Nat.mod_lt _ (by decide)))
      clear hlt
      obtain ⟨f, hf⟩ : ∃ f, (c + (L[k] + 0)) / W2 = f := ⟨_, rfl⟩
      obtain ⟨x, hx⟩ : ∃ x, (c + (L[k] + 0)) % W2 = x := ⟨_, rfl⟩
      rw [hf, hx] at Hlast Hp
      rw [hf] at Hcl
      rw [hx] at Hlow
      clear hf hx
      go_wp2_with (go_at_call 95; refine Hp.out.mono ?_; rintro e w5 ⟨⟨v5, rfl⟩, q1, q2, q3, q4⟩; have Q1 := Lib.hid q1; have Q2 := Lib.hid q2; have Q3 := Lib.hid q3; have Q4 := Lib.hid q4; have qc := q2.cell; clear q1 q2 q3 q4)
      go_ret
      have hf1 := Hcl.out
      refine ⟨L.set k x, f, ?_, Q1.out, by rw [List.length_set]; exact hLl, Hlow.out, hf1, Hlast.out, ?_⟩
      · have : decide (0 < f) = decide (f = 1) := decide_eq_decide.2 (by omega)
        rw [← this]
        rfl
      · have hO2 := hO.out.trans Q4.out
        exact ⟨hO2.os, hO2.tape, hO2.output, hO2.size, fun b hb hne => hO2.block b hb (fun h => by
          rcases h with h | h
          · exact hne h
          · have := Hsb.out; omega)⟩

end Go.Proofs.YtgfgjnkndfgdiaaDoor
