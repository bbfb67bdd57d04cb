/- the law LawsValue: its walk. -/
import Derived.Test.YtkjhlkngihponaaGreatDoorQVYLBas
import Derived.Test.YtkjhlkngihponaaGreatDoorQVGCat
import Derived.Test.YtkjhlkngihponaaGreatDoorQVLHnf
import Derived.Test.YtkjhlkngihponaaGreatDoorQVYSum
import Derived.Test.YtkjhlkngihponaaGreatDoorQVR5Comp
import Derived.Test.YtkjhlkngihponaaGreatDoorQVRegLast
set_option linter.unusedVariables false
set_option linter.unusedSimpArgs false
set_option maxHeartbeats 8000000
set_option maxRecDepth 100000
namespace Go.Proofs.YtkjhlkngihponaaGreatDoor
open Go.RowKit
def qC1 (x : Int) : Prop := 0 <= x /\ x <= 1099511627776
instance (x : Int) : Decidable (qGy x) := inferInstanceAs (Decidable (_ /\ _))
instance (x : Int) : Decidable (qC1 x) := inferInstanceAs (Decidable (_ /\ _))
def qMm (ws bs : List Int) : Int × Int :=
 if ws.length ≠ bs.length then (0, 1) else if bs.all (fun x => decide (qC1 x)) then (if qGy (qBB ws bs bs.length) then (qBB ws bs bs.length, 0) else (0, 4)) else (0, 5)
def qIT (ws bs : List Int) : Value := .tuple #[.int .i64 (qMm ws bs).1, .int .i64 (qMm ws bs).2]
theorem qIV {ws bs : List Int} (h : ws.length ≠ bs.length) : qMm ws bs = (0, 1) := if_pos h
theorem qEi {ws bs : List Int} (h : ws.length = bs.length) {x : Int} (hx : x ∈ bs) (h2 : ¬ qC1 x) : qMm ws bs = (0, 5) := by
 unfold qMm; rw [if_neg (by simpa using h), if_neg]; intro h9; exact h2 (of_decide_eq_true (List.all_eq_true.1 h9 x hx))
theorem qIW {ws bs : List Int} (h : ws.length = bs.length) (hx : ∀ x ∈ bs, qC1 x) (h2 : qGy (qBB ws bs bs.length)) : qMm ws bs = (qBB ws bs bs.length, 0) := by
 unfold qMm; rw [if_neg (by simpa using h), if_pos (List.all_eq_true.2 (fun x h9 => decide_eq_true (hx x h9))), if_pos h2]
theorem qIU {ws bs : List Int} (h : ws.length = bs.length) (hx : ∀ x ∈ bs, qC1 x) (h2 : ¬ qGy (qBB ws bs bs.length)) : qMm ws bs = (0, 4) := by
 unfold qMm; rw [if_neg (by simpa using h), if_pos (List.all_eq_true.2 (fun x h9 => decide_eq_true (hx x h9))), if_neg h2]
theorem qG5 (vw vb : Value) (ws bs : List Int) (w0 : World) (hw : qAk w0 vw ws) (hb : qAk w0 vb bs) (h1 : B64 ws) (h2 : B64 bs) (hl : bs.length <= 1000) :
 Calls Tryz.prog 31 #[vw, vb] w0 fun e w' => e = .returned (qIT ws bs) /\ Below w0.heap.size w0 w' := by
 have HW := hZ hw; have HV := hZ hb; have H1 := hZ h1; have H2 := hZ h2; obtain ⟨aw, cw, rfl, -, -⟩ := qAf.form hw; obtain ⟨ab, cb, rfl, -, -⟩ := qAf.form hb; have HB := hZ (Below.refl w0.heap.size w0); clear hw hb h1 h2
 go_enter Tryz.func31, Tryz.ntmps31
 by_cases hlen : ws.length = bs.length
 ·skip
  have s1 : ((ws.length : Int) != (bs.length : Int)) = false := by simp; omega
  have s2 : (ws.length != bs.length) = false := by simp; omega
  have HL := hZ hlen; clear hlen
  go_wp2_with fail
  clear s1 s2
  go_loopw [17] (fun i wr => ∃ k : Nat, k <= bs.length /\ i = .int .i64 k /\ Hid (∀ x ∈ bs.take k, qC1 x) /\ w0 = wr) (fun i _ => bs.length - (intOf i).toNat)
  case atStart => exact ⟨0, by omega, rfl, hZ (fun x h => by simp at h), rfl⟩
  case round =>
   obtain ⟨k, hk, rfl, HU, rfl⟩ := hrel; by_cases hkb : k < bs.length
   ·skip
    have k1 : (0 : Int) <= (k : Int) := by omega
    have k2 : (k : Int) < (bs.length : Int) := by omega
    obtain ⟨b, cap, hv, hb, n0⟩ := HV.o.at_ k hkb; injection hv with f1 f2 f3; subst f1; clear f2 f3; obtain ⟨x, hx⟩ := eX (bs[k]); rw [hx] at n0; have Hx := hZ hx; clear hx; by_cases hxn : x < 0
    ·skip
     go_wp2_with fail
     exact bodyPost_ret (v := .tuple #[.int .i64 0, .int .i64 5]) (by simp [results, Tryz.results31, go_sem]) rfl ⟨by unfold qIT; rw [qEi (x := x) HL.o (show x ∈ bs by rw [<- Hx.o]; exact List.getElem_mem hkb) (by unfold qC1; omega)], HB.o⟩
    ·skip
     by_cases hxl : (1099511627776 : Int) < x
     ·skip
      go_wp2_with fail
      exact bodyPost_ret (v := .tuple #[.int .i64 0, .int .i64 5]) (by simp [results, Tryz.results31, go_sem]) rfl ⟨by unfold qIT; rw [qEi (x := x) HL.o (show x ∈ bs by rw [<- Hx.o]; exact List.getElem_mem hkb) (by unfold qC1; omega)], HB.o⟩
     ·skip
      go_wp2_with fail
      go_roundw
      case rel => exact ⟨k + 1, by omega, by go_num, hZ (fun y hy => by rw [List.take_succ_eq_append_getElem hkb] at hy; rcases List.mem_append.1 hy with h9 | h9; exact HU.o y h9; rw [List.mem_singleton.1 h9, Hx.o]; unfold qC1; omega), by trivial⟩
      case measure => simp [intOf]; omega
   ·skip
    have hke : k = bs.length := by omega
    have HA : Hid (∀ x ∈ bs, qC1 x) := hZ (by have h9 := HU.o; rwa [hke, List.take_length] at h9); have k2 : ¬ (k : Int) < (bs.length : Int) := by omega
    clear hke hkb HU
    go_wp2_with fail
    clear k2; refine (qCr _ _ ws bs w0 HW.o HV.o H1.o H2.o (by rw [HL.o]; exact Nat.le_refl _) (by omega)).mono ?_; rintro e w1 ⟨⟨v, rfl, hv⟩, hB⟩; have Vv := hZ hv; replace HB := hZ (HB.o.trans hB); clear hv hB; obtain ⟨s_v, a_v, n_v, c_v, rfl⟩ := Vv.o.form4
    go_wp2_with fail
    refine (qDk _ _ w1 Vv.o (qDj H1.o H2.o _ (by omega))).mono ?_; rintro e w2 ⟨rfl, hB⟩; replace HB := bT HB hB; clear hB; obtain ⟨S, hS⟩ := eX (qBB ws bs bs.length); have HS := hZ hS; rw [hS]; clear hS; by_cases hf : qGy S
    ·skip
     rw [qDM hf]; have Hf := hZ hf; clear hf
     go_wp2_with fail
     exact bodyPost_ret (v := .tuple #[.int .i64 S, .int .i64 0]) (by simp [results, Tryz.results31, go_sem]) rfl ⟨by unfold qIT; rw [qIW HL.o HA.o (by rw [HS.o]; exact Hf.o), HS.o], HB.o⟩
    ·skip
     rw [qDL hf]; have Hf := hZ hf; clear hf
     go_wp2_with fail
     exact bodyPost_ret (v := .tuple #[.int .i64 0, .int .i64 4]) (by simp [results, Tryz.results31, go_sem]) rfl ⟨by unfold qIT; rw [qIU HL.o HA.o (by rw [HS.o]; exact Hf.o)], HB.o⟩
 ·skip
  have s1 : ((ws.length : Int) != (bs.length : Int)) = true := by simp; omega
  have s2 : (ws.length != bs.length) = true := by simp; omega
  have HL := hZ hlen; clear hlen
  go_wp2_with fail
  exact bodyPost_ret (v := .tuple #[.int .i64 0, .int .i64 1]) (by simp [results, Tryz.results31, go_sem]) rfl ⟨by unfold qIT; rw [qIV HL.o], HB.o⟩
theorem qH1 (vw vb : Value) (ws bs : List Int) (w0 : World) (hw : qAk w0 vw ws) (hb : qAk w0 vb bs) (h1 : B64 ws) (h2 : B64 bs) (hl : bs.length <= 1000) :
 Calls Tryz.prog 32 #[vw, vb] w0 fun e w' => e = .returned (qIT ws bs) /\ Below w0.heap.size w0 w' := by
 have HW := hZ hw; have HV := hZ hb; have H1 := hZ h1; have H2 := hZ h2; obtain ⟨aw, cw, rfl, -, -⟩ := qAf.form hw; obtain ⟨ab, cb, rfl, -, -⟩ := qAf.form hb; have HB := hZ (Below.refl w0.heap.size w0); clear hw hb h1 h2
 go_enter Tryz.func32, Tryz.ntmps32
 by_cases hlen : ws.length = bs.length
 ·skip
  have s1 : ((ws.length : Int) != (bs.length : Int)) = false := by simp; omega
  have s2 : (ws.length != bs.length) = false := by simp; omega
  have HL := hZ hlen; clear hlen
  go_wp2_with fail
  clear s1 s2
  go_loopw [6] (fun i wr => ∃ k : Nat, k <= bs.length /\ i = .int .i64 k /\ Hid (∀ x ∈ bs.take k, qC1 x) /\ w0 = wr) (fun i _ => bs.length - (intOf i).toNat)
  case atStart => exact ⟨0, by omega, rfl, hZ (fun x h => by simp at h), rfl⟩
  case round =>
   obtain ⟨k, hk, rfl, HU, rfl⟩ := hrel; by_cases hkb : k < bs.length
   ·skip
    have k1 : (0 : Int) <= (k : Int) := by omega
    have k2 : (k : Int) < (bs.length : Int) := by omega
    obtain ⟨b, cap, hv, hb, n0⟩ := HV.o.at_ k hkb; injection hv with f1 f2 f3; subst f1; clear f2 f3; obtain ⟨x, hx⟩ := eX (bs[k]); rw [hx] at n0; have Hx := hZ hx; clear hx; by_cases hxn : x < 0
    ·skip
     go_wp2_with fail
     exact bodyPost_ret (v := .tuple #[.int .i64 0, .int .i64 5]) (by simp [results, Tryz.results32, go_sem]) rfl ⟨by unfold qIT; rw [qEi (x := x) HL.o (show x ∈ bs by rw [<- Hx.o]; exact List.getElem_mem hkb) (by unfold qC1; omega)], HB.o⟩
    ·skip
     by_cases hxl : (1099511627776 : Int) < x
     ·skip
      go_wp2_with fail
      exact bodyPost_ret (v := .tuple #[.int .i64 0, .int .i64 5]) (by simp [results, Tryz.results32, go_sem]) rfl ⟨by unfold qIT; rw [qEi (x := x) HL.o (show x ∈ bs by rw [<- Hx.o]; exact List.getElem_mem hkb) (by unfold qC1; omega)], HB.o⟩
     ·skip
      go_wp2_with fail
      go_roundw
      case rel => exact ⟨k + 1, by omega, by go_num, hZ (fun y hy => by rw [List.take_succ_eq_append_getElem hkb] at hy; rcases List.mem_append.1 hy with h9 | h9; exact HU.o y h9; rw [List.mem_singleton.1 h9, Hx.o]; unfold qC1; omega), by trivial⟩
      case measure => simp [intOf]; omega
   ·skip
    have hke : k = bs.length := by omega
    have HA : Hid (∀ x ∈ bs, qC1 x) := hZ (by have h9 := HU.o; rwa [hke, List.take_length] at h9); have k2 : ¬ (k : Int) < (bs.length : Int) := by omega
    clear hke hkb HU
    go_wp2_with fail
    clear k2; refine (qK5 _ _ ws bs w0 HW.o HV.o H1.o H2.o (by rw [HL.o]; exact Nat.le_refl _) hl).mono ?_; rintro e w1 ⟨s_v, a_v, n_v, c_v, rfl, hv, hB⟩; have Vv := hZ hv; replace HB := hZ (HB.o.trans hB); clear hv hB
    go_wp2_with fail
    refine (qPa (w := w1) (k := 200) Vv.o (qKP H1.o H2.o _ (by omega)) (by omega)).mono ?_; rintro e w2 ⟨rfl, hB⟩; replace HB := bT HB hB; clear hB; obtain ⟨S, hS⟩ := eX (qBB ws bs bs.length); have HS := hZ hS; rw [hS]; clear hS; by_cases hf : qGy S
    ·skip
     rw [qDM hf]; have Hf := hZ hf; clear hf
     go_wp2_with fail
     exact bodyPost_ret (v := .tuple #[.int .i64 S, .int .i64 0]) (by simp [results, Tryz.results32, go_sem]) rfl ⟨by unfold qIT; rw [qIW HL.o HA.o (by rw [HS.o]; exact Hf.o), HS.o], HB.o⟩
    ·skip
     rw [qDL hf]; have Hf := hZ hf; clear hf
     go_wp2_with fail
     exact bodyPost_ret (v := .tuple #[.int .i64 0, .int .i64 4]) (by simp [results, Tryz.results32, go_sem]) rfl ⟨by unfold qIT; rw [qIU HL.o HA.o (by rw [HS.o]; exact Hf.o)], HB.o⟩
 ·skip
  have s1 : ((ws.length : Int) != (bs.length : Int)) = true := by simp; omega
  have s2 : (ws.length != bs.length) = true := by simp; omega
  have HL := hZ hlen; clear hlen
  go_wp2_with fail
  exact bodyPost_ret (v := .tuple #[.int .i64 0, .int .i64 1]) (by simp [results, Tryz.results32, go_sem]) rfl ⟨by unfold qIT; rw [qIV HL.o], HB.o⟩
structure qIN (w : World) (b : Nat) (r0 r1 : List Int) : Prop where
 m : qBa w (.slice (some ⟨b, 0, none⟩) 2 2) [r0, r1]
 h0 : B64 r0
 h1 : B64 r1
 l0 : r0.length <= 5
 l1 : r1.length <= 5
theorem qIN.below {w w' : World} {b : Nat} {r0 r1 : List Int} (h : qIN w b r0 r1) (hb : Below w.heap.size w w') : qIN w' b r0 r1 := ⟨h.m.below hb, h.h0, h.h1, h.l0, h.l1⟩
theorem qIN.new {w : World} {b : Nat} {u0 u1 : Value} {r0 r1 : List Int} (hb : qAo w b 22 [u0, u1]) (h0 : qAk w u0 r0) (h1 : qAk w u1 r1) (k0 : B64 r0) (k1 : B64 r1) (l0 : r0.length <= 5) (l1 : r1.length <= 5) : qIN w b r0 r1 := by
 refine ⟨?_, k0, k1, l0, l1⟩; refine qA1 (k := 1) (xs := [r0, r1]) (css := [[u0], [u1]]) (by simpa using hb) (by simp) rfl (fun j hj hj2 => ?_) (by simp) (by simp); have : j = 0 \/ j = 1 := by simp at hj; omega
 rcases this with rfl | rfl
 ·exact ⟨u0, rfl, h0⟩
 ·exact ⟨u1, rfl, h1⟩
theorem qIN.at_ {w : World} {b : Nat} {r0 r1 : List Int} (h : qIN w b r0 r1) (i : Nat) (hi : i < 2) : b < w.heap.size /\ ∃ r a n c, w.cell? ⟨b, i, none⟩ = some (.slice a n c) /\ qAk w (.slice a n c) r /\ B64 r /\ r.length <= 5 := by
 obtain ⟨b', cap, a, c, hv, hb, hc, hi2, -, -⟩ := h.m.at_ i (by simpa using hi); injection hv with e _ _; injection e with e; injection e with e _ _; subst e; refine ⟨hb, _, a, _, c, hc, hi2, ?_, ?_⟩
 ·have : i = 0 \/ i = 1 := by omega
  rcases this with rfl | rfl
  ·exact h.h0
  ·exact h.h1
 ·have : i = 0 \/ i = 1 := by omega
  rcases this with rfl | rfl
  ·exact h.l0
  ·exact h.l1
theorem qMw (x y : Int) (h1 : 0 <= x) (h2 : x < 1000000) (h3 : 0 <= y) (h4 : y < 1200000) : 0 <= x * y /\ x * y <= 1200000000000 :=
 ⟨Int.mul_nonneg h1 h3, Int.le_trans (Int.mul_le_mul (show x <= 1000000 by omega) (show y <= 1200000 by omega) h3 (by omega)) (by decide)⟩
theorem qGe (v1 : Value) (zs1 : List Int) (n1 : Nat) (v2 : Value) (zs2 : List Int) (n2 : Nat) (v3 : Value) (zs3 : List Int) (n3 : Nat) (v4 : Value) (zs4 : List Int) (n4 : Nat) (kk : Int) (w : World) (h1 : qBY w v1 zs1 n1) (h2 : qBY w v2 zs2 n2) (h3 : qBY w v3 zs3 n3) (h4 : qBY w v4 zs4 n4) (hk1 : -9223372036854775808 <= kk) (hk2 : kk <= 9223372036854775807) (hK : qAY w) (hP : qDa w) :
 Calls Tryz.prog 9 #[v1, v2, v3, v4, .int .i64 kk] w fun e w' => e = .returned (.bool true) /\ Below w.heap.size w w' := by
 have H1 := hZ h1; have H2 := hZ h2; have H3 := hZ h3; have H4 := hZ h4; have HK := hZ hK; have HP := hZ hP; have HB := hZ (Below.refl w.heap.size w); have har := qEd kk 6 (by omega); have HAR := hZ (qFS kk 6 w hk1 hk2 (by omega) (by omega)); obtain ⟨n, hn⟩ : ∃ n : Nat, qCA kk 6 = (n : Int) := ⟨(qCA kk 6).toNat, by omega⟩; rw [hn] at HAR har; have hn5 : n <= 5 := by omega
 clear h1 h2 h3 h4 hK hP hn har
 go_enter Tryz.func9, Tryz.ntmps9
 go_wp2_with fail
 refine HAR.o.mono ?_; clear HAR; rintro e w1 ⟨rfl, rfl⟩
 go_wp2_with (at_make; refine qBv rfl rfl (n) rfl rfl rfl rfl (by omega) ?_)
 intro w1 hmk hB hlt1; obtain ⟨g, hg⟩ := eX w.heap.size; have HG := hZ hg; rw [hg] at hmk ⊢; have HO : Hid (qAo w1 g 3 ((List.replicate n (0 : Int)).map zv)) := hZ (by rw [List.map_replicate]; simpa [zv] using hmk); replace HB := bT HB hB; clear hB; clear hmk hlt1 hg
 go_wp2_with fail
 go_loopw [13] (fun i wr => ∃ (k : Nat) (cs : List Int), k <= n /\ i = .int .i64 k /\ Hid (cs.length = n /\ B64 cs) /\ Hid (qAo wr g 3 (cs.map zv)) /\ Hid (Below g w wr)) (fun i _ => n - (intOf i).toNat)
 case atStart => exact ⟨0, List.replicate n 0, by omega, rfl, hZ ⟨by simp, fun x hx => by rw [(List.mem_replicate.1 hx).2]; omega⟩, HO, by rw [<- HG.o]; exact HB⟩
 case round =>
  clear HO HB; obtain ⟨k, cs, hk, rfl, HC, HO, HB⟩ := hrel; obtain ⟨wl, rfl⟩ := eY wr; by_cases hkc : k < n
  ·have q1 : decide ((k : Int) < (n : Int)) = true := decide_eq_true (by omega)
   have i1 : (0 : Int) <= (k : Int) := by omega
   have i2 : (k : Int) < (n : Int) := by omega
   have HI2 := hZ (H2.o.below (Nat.le_of_eq HG.o) HB.o); have p1 := qF4 v2 zs2 n2 k 1000000 wl HI2.o (by omega) (by omega) (by omega); have p2 := qF4 v2 zs2 n2 (k + 1) 1200000 wl HI2.o (by omega) (by omega) (by omega); have r1 := qC5 zs2 n2 k 1000000 (by omega); have r2 := qC5 zs2 n2 (k + 1) 1200000 (by omega); obtain ⟨x, hx⟩ := eX (qDO zs2 n2 k 1000000); obtain ⟨y, hy⟩ := eX (qDO zs2 n2 (k + 1) 1200000); rw [hx] at p1 r1; rw [hy] at p2 r2; have hxy := qMw x y r1.1 r1.2 r2.1 r2.2; have HXY := hZ hxy; have P2 := hZ p2; have hkk : ((k + 1 : Nat) : Int) = (k : Int) + 1 := by omega
   rw [hkk] at P2; have y3 := HO.o.frozen k; have y2 : wl.cell? ⟨g, k, none⟩ = some (zv (cs[k]'(by rw [HC.o.1]; exact hkc))) := by
    rw [HO.o.cell, List.getElem?_map, List.getElem?_eq_getElem (by rw [HC.o.1]; exact hkc)]; rfl
   obtain ⟨z, hz⟩ := eX (x * y); rw [hz] at HXY hxy; have hzb := hxy; clear hx hy r1 r2 hkk hxy p2
   go_wp2_with fail
   refine p1.mono ?_; clear p1; rintro e w' ⟨rfl, rfl⟩
   go_wp2_with fail
   refine P2.o.mono ?_; rintro e w' ⟨rfl, rfl⟩; obtain ⟨w3, hw3⟩ := eX (w'.setCell ⟨g, k, none⟩ (.int .i64 z)); have HO3 : Hid (qAo w3 g 3 ((cs.set k z).map zv)) := hZ (by rw [<- hw3, List.map_set]; exact HO.o.set k (zv z)); have HB3 : Hid (Below g w w3) := hZ (by rw [<- hw3]; exact HB.o.setCell (p := ⟨g, k, none⟩) (Nat.le_refl _) _); have HC3 : Hid ((cs.set k z).length = n /\ B64 (cs.set k z)) := hZ ⟨by rw [List.length_set]; exact HC.o.1, fun q hq => by
    rcases List.mem_or_eq_of_mem_set hq with h | h
    ·exact HC.o.2 q h
    ·rw [h]; have := HXY.o; omega⟩
   go_wp2_with fail
   try rw [hw3]
   clear hw3 y2 y3; go_roundw
   case rel => exact ⟨k + 1, cs.set k z, by omega, by go_num, HC3, HO3, HB3⟩
   case measure => simp [intOf]; omega
  ·have q1 : decide ((k : Int) < (n : Int)) = false := decide_eq_false (by omega)
   have HSM : Hid (qAk wl (.slice (some ⟨g, 0, none⟩) n n) cs) := hZ (qAk.lit HO.o HC.o.1 (by omega)); replace HB : Hid (Below w.heap.size w wl) := by rw [HG.o]; exact HB
   clear HO
   go_wp2_with fail
   clear q1; refine (qHS v1 zs1 n1 n wl (H1.o.below (Nat.le_refl _) HB.o) (by omega)).mono ?_; rintro e w2 ⟨hB, u0, r0, rfl, hu0, hl0, hr0⟩; obtain ⟨a0, c0, rfl, -, -⟩ := hu0.form; have HR0 : Hid (B64 r0 /\ r0.length = n) := hZ ⟨fun x hx => by have := hr0 x hx; omega, hl0⟩; have HU0 := hZ hu0; replace HSM := hZ (HSM.o.below hB); replace HB := bT HB hB; clear hB; clear hu0 hl0 hr0
   go_wp2_with fail
   refine (qGQ v3 zs3 n3 w2 (H3.o.below (Nat.le_refl _) HB.o)).mono ?_; rintro e w3 ⟨hB, u1, r1, rfl, hu1, hl1, hr1⟩; obtain ⟨a1, c1, rfl, -, -⟩ := hu1.form; have HR1 : Hid (B64 r1 /\ r1.length <= 5) := hZ ⟨hr1, hl1⟩; replace HU0 := hZ (HU0.o.below hB); replace HSM := hZ (HSM.o.below hB); replace HB := bT HB hB; clear hB; obtain ⟨w4, hw4⟩ := eX (w3.alloc (.cells #[.slice a0 r0.length c0, .slice a1 r1.length c1] 22)); obtain ⟨bw, hbw⟩ := eX w3.heap.size; have hB : Below w3.heap.size w3 w4 := by rw [<- hw4]; exact aR
   have HPW : Hid (qIN w4 bw r0 r1) := hZ (qIN.new (by rw [<- hw4, <- hbw]; exact qAo.new _ _ _) (HU0.o.below hB) (hu1.below hB) HR0.o.1 HR1.o.1 (by have := HR0.o.2; omega) HR1.o.2); replace HSM := hZ (HSM.o.below hB); replace HB := bT HB hB; clear hB; clear hu1 hl1 hr1 HU0
   go_wp2_with fail
   clear hw4; refine (qGQ v4 zs4 n4 w4 (H4.o.below (Nat.le_refl _) HB.o)).mono ?_; rintro e w5 ⟨hB, u2, r2, rfl, hu2, hl2, hr2⟩; obtain ⟨a2, c2, rfl, -, -⟩ := hu2.form; replace HPW := hZ (HPW.o.below hB); replace HSM := hZ (HSM.o.below hB); replace HB := bT HB hB; clear hB; obtain ⟨w6, hw6⟩ := eX (w5.alloc (.cells #[.slice (some ⟨g, 0, none⟩) n n, .slice a2 r2.length c2] 22)); obtain ⟨bb, hbb⟩ := eX w5.heap.size; have hB : Below w5.heap.size w5 w6 := by rw [<- hw6]; exact aR
   have HPB : Hid (qIN w6 bb cs r2) := hZ (qIN.new (by rw [<- hw6, <- hbb]; exact qAo.new _ _ _) (HSM.o.below hB) (hu2.below hB) HC.o.2 hr2 (by have := HC.o.1; omega) hl2); replace HPW := hZ (HPW.o.below hB); replace HB := bT HB hB; clear hB; clear hu2 hl2 hr2 HSM HC
   go_wp2_with fail
   clear hbw hbb hw6
   go_loopw [16] (fun i wr => ∃ i0 : Nat, i0 <= 2 /\ i = .int .i64 i0 /\ Hid (qIN wr bw r0 r1 /\ qIN wr bb cs r2) /\ Hid (Below w.heap.size w wr)) (fun i _ => 2 - (intOf i).toNat)
   case atStart => exact ⟨0, by omega, rfl, hZ ⟨HPW.o, HPB.o⟩, HB⟩
   case round =>
    clear HPW HPB HB; obtain ⟨i0, hi0, rfl, HPP, HB⟩ := hrel; obtain ⟨wi, rfl⟩ := eY wr; by_cases hi2 : i0 < 2
    ·have q1 : decide ((i0 : Int) < 2) = true := decide_eq_true (by omega)
     have i1 : (0 : Int) <= (i0 : Int) := by omega
     have i2 : (i0 : Int) < 2 := by omega
     go_wp2_with fail
     clear q1
     go_loopw [17] (fun j wr => ∃ j0 : Nat, j0 <= 2 /\ j = .int .i64 j0 /\ Hid (qIN wr bw r0 r1 /\ qIN wr bb cs r2) /\ Hid (Below w.heap.size w wr)) (fun j _ => 2 - (intOf j).toNat)
     case atStart => exact ⟨0, by omega, rfl, HPP, HB⟩
     case round =>
      clear HPP HB; obtain ⟨j0, hj0, rfl, HPP, HB⟩ := hrel; obtain ⟨wj, rfl⟩ := eY wr; by_cases hj2 : j0 < 2
      ·have q1 : decide ((j0 : Int) < 2) = true := decide_eq_true (by omega)
       have j1 : (0 : Int) <= (j0 : Int) := by omega
       have j2 : (j0 : Int) < 2 := by omega
       obtain ⟨hbw, rA, aA, nA, cA, e1, hA1, hA2, hA3⟩ := HPP.o.1.at_ i0 hi2; obtain ⟨hbb, rB, aB, nB, cB, e2, hB1, hB2, hB3⟩ := HPP.o.2.at_ j0 hj2; have HA := hZ (And.intro hA1 (And.intro hA2 hA3)); have HBG := hZ (And.intro hB1 (And.intro hB2 hB3)); clear hA1 hA2 hA3 hB1 hB2 hB3
       go_wp2_with fail
       clear q1; refine qD5 99 (fun X => X.cell? ⟨bw, i0, none⟩ = some (.slice aA nA cA) /\ X.cell? ⟨bb, j0, none⟩ = some (.slice aB nB cB)) (by kernel_rfl) (⟨e1, e2⟩) (fun hHeld => ?_); refine kU 0 61 ?_; refine kU 1 62 ?_; refine kU 2 63 ?_; refine kU 3 64 ?_; refine kU 4 65 ?_; refine kU 5 66 ?_; refine kU 6 67 ?_; refine kU 7 68 ?_; have hdr : Below wj.heap.size wj wj.drew := (Below.refl _ _).drew; have hlv := qG5 _ _ rA rB wj.drew (HA.o.1.below hdr) (HBG.o.1.below hdr) HA.o.2.1 HBG.o.2.1 (by have := HBG.o.2.2; omega); refine qBO 8 (by kernel_rfl) rfl (fun K hK => ?_); go_simp; refine hlv.mono ?_; clear hlv; rintro e w7 ⟨rfl, hB⟩; replace hB : Below wj.heap.size wj w7 := hdr.trans hB; have HE7 : Hid (w7.cell? ⟨bw, i0, none⟩ = some (.slice aA nA cA) /\ w7.cell? ⟨bb, j0, none⟩ = some (.slice aB nB cB)) := hZ ⟨(hB.cell (p := ⟨bw, i0, none⟩) hbw).trans e1, (hB.cell (p := ⟨bb, j0, none⟩) hbb).trans e2⟩; replace HPP := hZ (And.intro (HPP.o.1.below hB) (HPP.o.2.below hB)); replace HA := hZ (And.intro (HA.o.1.below hB) HA.o.2); replace HBG := hZ (And.intro (HBG.o.1.below hB) HBG.o.2); replace HB := bT HB hB; clear hB; clear hHeld hdr e1 e2; unfold qIT; obtain ⟨vz, hvz⟩ := eX (qMm rA rB); rw [hvz]; have HVZ := hZ hvz; clear hvz
       go_wp2_with fail
       refine hK.out _ _ (HE7.o) (fun hHeld => ?_); clear hK K
       try simp only [Act.put, sX1, sX2, sX3]
       refine kU 9 60 ?_; refine kU 10 70 ?_; refine kU 11 71 ?_; refine kU 12 18 ?_; refine kU 13 19 ?_; refine qKm (by kernel_rfl) ?_ _; clear hHeld; obtain ⟨e1, e2⟩ := HE7.o
       go_wp2_with fail
       refine qD5 99 (fun X => X.cell? ⟨bw, i0, none⟩ = some (.slice aA nA cA) /\ X.cell? ⟨bb, j0, none⟩ = some (.slice aB nB cB)) (by kernel_rfl) (⟨e1, e2⟩) (fun hHeld => ?_); refine kU 0 73 ?_; refine kU 1 74 ?_; refine kU 2 75 ?_; refine kU 3 76 ?_; refine kU 4 77 ?_; refine kU 5 78 ?_; refine kU 6 79 ?_; refine kU 7 80 ?_; have hdr : Below w7.heap.size w7 w7.drew := (Below.refl _ _).drew; have hlv := qH1 _ _ rA rB w7.drew (HA.o.1.below hdr) (HBG.o.1.below hdr) HA.o.2.1 HBG.o.2.1 (by have := HBG.o.2.2; omega); unfold qIT at hlv; rw [HVZ.o] at hlv; refine qBO 8 (by kernel_rfl) rfl (fun K hK => ?_); go_simp; refine hlv.mono ?_; clear hlv; rintro e w8 ⟨rfl, hB⟩; replace hB : Below w7.heap.size w7 w8 := hdr.trans hB; have HE8 : Hid (w8.cell? ⟨bw, i0, none⟩ = some (.slice aA nA cA) /\ w8.cell? ⟨bb, j0, none⟩ = some (.slice aB nB cB)) := hZ ⟨(hB.cell (p := ⟨bw, i0, none⟩) (World.block_lt_of_cell? w7 _ e1)).trans e1, (hB.cell (p := ⟨bb, j0, none⟩) (World.block_lt_of_cell? w7 _ e2)).trans e2⟩; replace HPP := hZ (And.intro (HPP.o.1.below hB) (HPP.o.2.below hB)); replace HB := bT HB hB; clear hB; clear hHeld hdr e1 e2
       go_wp2_with fail
       refine hK.out _ _ (HE8.o) (fun hHeld => ?_); clear hK K
       try simp only [Act.put, sX1, sX2, sX3]
       refine kU 9 72 ?_; refine kU 10 82 ?_; refine kU 11 83 ?_; refine kU 12 20 ?_; refine kU 13 21 ?_; refine qKm (by kernel_rfl) ?_ _; clear hHeld
       go_wp2_with fail
       go_roundw
       case rel => exact ⟨j0 + 1, by omega, by go_num, HPP, HB⟩
       case measure => simp [intOf]; omega
      ·have q1 : decide ((j0 : Int) < 2) = false := decide_eq_false (by omega)
       go_wp2_with fail
       go_roundw
       case rel => exact ⟨i0 + 1, by omega, by go_num, HPP, HB⟩
       case measure => simp [intOf]; omega
    ·have q1 : decide ((i0 : Int) < 2) = false := decide_eq_false (by omega)
     go_wp2_with fail
     clear q1; refine (qKd wi (HK.o.keep HB.o) (HP.o.below HB.o HP.o.lt)).mono ?_; rintro e w9 ⟨rfl, hB⟩; replace HB := bT HB hB; clear hB
     go_wp2_with fail
     exact bodyPost_ret (v := .bool true) (by simp [results, Tryz.results9, go_sem]) rfl ⟨rfl, HB.o⟩
end Go.Proofs.YtkjhlkngihponaaGreatDoor
