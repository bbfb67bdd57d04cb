/- lattice.Kernel. -/
import Derived.Test.YtlmbebbdamgfpaaQULMat
import Derived.Test.YtlmbebbdamgfpaaQULNorm
import Derived.Test.YtlmbebbdamgfpaaQULWiden
import Derived.Test.YtlmbebbdamgfpaaQULSmall
set_option linter.unusedVariables false
set_option linter.unusedSimpArgs false
set_option linter.unusedVariables false
set_option linter.unusedSimpArgs false
namespace Go.Proofs.Ytlmbebbdamgfpaa
open Go.RowKit

theorem all_take_succ {α : Type} {P : α → Prop} {l : List α} {j : Nat} (hj : j < l.length) (h : ∀ x ∈ l.take j, P x) (h2 : P l[j]) : ∀ x ∈ l.take (j + 1), P x := by
 intro x hx
 rw [List.take_succ_eq_append_getElem hj] at hx
 rcases List.mem_append.1 hx with h3 | h3
 ·exact h x h3
 ·rw [List.mem_singleton.1 h3]; exact h2
set_option maxHeartbeats 4000000 in
theorem check_any (v : Value) (m : List (List Int)) (w : World) (h : MatAt w v m) :
 Calls Try.prog 30 #[v] w fun e w' => e = .returned (.int .i64 (checkZ m)) ∧ Below w.heap.size w w' := by
 have H := Lib.hid h
 obtain ⟨av, cv, rfl, q1, q2⟩ := h.form
 clear h
 by_cases hr : 64 < m.length
 ·have r1 : (64 : Int) < (m.length : Int) := by omega
  have HZ := Lib.hid (checkZ_rows hr)
  go_enter Try.func30, Try.ntmps30
  go_wp2_with fail
  go_ret
  exact ⟨by rw [HZ.out]; rfl, Below.refl _ _⟩
 ·have r1 : ¬ (64 : Int) < (m.length : Int) := by omega
  go_enter Try.func30, Try.ntmps30
  go_wp2_with fail
  go_loopw [16] (fun i wr => ∃ j : Nat, j ≤ m.length ∧ i = .int .i64 j ∧ Hid (∀ r ∈ m.take j, r.length ≤ 128) ∧ Hid (Below w.heap.size w wr)) (fun i _ => m.length - (intOf i).toNat)
  case atStart => exact ⟨0, by omega, rfl, Lib.hid (by simp), Lib.hid (Below.refl _ _)⟩
  case round =>
   obtain ⟨j, hj, rfl, HT, HB⟩ := hrel
   by_cases hlt : j < m.length
   ·obtain ⟨b, cap, a, c, hv, hb, n1, HI, g1, g2⟩ := (H.out.below HB.out).at_ j hlt
    injection hv with f1 f2 f3
    subst f1
    clear f2 f3
    have i1 : (0 : Int) ≤ (j : Int) := by omega
    have i2 : (j : Int) < (m.length : Int) := by omega
    have HI := Lib.hid HI
    have HM : Hid (m[j] ∈ m) := Lib.hid (List.getElem_mem hlt)
    have HS := Lib.hid (fun h2 => all_take_succ (P := fun r => r.length ≤ 128) hlt HT.out h2)
    clear HT
    generalize m[j] = r at *
    by_cases hx : 128 < r.length
    ·have s1 : (128 : Int) < (r.length : Int) := by omega
     have HZ := Lib.hid (checkZ_cols (by omega) HM.out hx)
     go_wp2_with fail
     go_ret
     exact ⟨by rw [HZ.out]; rfl, HB.out⟩
    ·have s1 : ¬ (128 : Int) < (r.length : Int) := by omega
     go_wp2_with fail
     go_roundw
     case rel => exact ⟨j + 1, by omega, by go_num, Lib.hid (HS.out (by omega)), HB⟩
     case measure => simp [intOf]; omega
   ·have hC : ∀ r ∈ m, r.length ≤ 128 := by have := HT.out; rwa [List.take_of_length_le (by omega)] at this
    have HC := Lib.hid hC
    clear hC HT
    go_wp2_with fail
    go_loopw [26] (fun i wr => ∃ j : Nat, j ≤ m.length ∧ i = .int .i64 j ∧ Hid (∀ r ∈ m.take j, r.length = (m[0]?.getD []).length) ∧ Hid (Below w.heap.size w wr)) (fun i _ => m.length - (intOf i).toNat)
    case atStart => exact ⟨0, by omega, rfl, Lib.hid (by simp), HB⟩
    case round =>
     clear HB hj hlt
     obtain ⟨j, hj, rfl, HT, HB⟩ := hrel
     by_cases hlt : j < m.length
     ·obtain ⟨b, cap, a, c, hv, hb, n1, HI, g1, g2⟩ := (H.out.below HB.out).at_ j hlt
      have h0 : 0 < m.length := by omega
      obtain ⟨b0, cap0, a0, c0, hv0, hb0, n0, HI0, g10, g20⟩ := (H.out.below HB.out).at_ 0 h0
      injection hv with f1 f2 f3
      subst f1
      clear f2 f3
      injection hv0 with f1 f2 f3
      injection f1 with f1
      injection f1 with f1
      subst f1
      clear f2 f3
      have i1 : (0 : Int) ≤ (j : Int) := by omega
      have i2 : (j : Int) < (m.length : Int) := by omega
      have i3 : (0 : Int) < (m.length : Int) := by omega
      clear HI HI0
      have HM : Hid (m[j] ∈ m) := Lib.hid (List.getElem_mem hlt)
      have HS := Lib.hid (fun h2 => all_take_succ (P := fun r => r.length = (m[0]?.getD []).length) hlt HT.out h2)
      have HE : Hid ((m[0]?.getD []).length = m[0].length) := Lib.hid (by simp [List.getElem?_eq_getElem h0])
      have HZ := Lib.hid (fun h3 => checkZ_rag (by omega) HC.out h0 HM.out h3)
      clear HT
      generalize m[j] = r at *
      generalize m[0] = r0 at *
      by_cases hx : r.length = r0.length
      ·have s1 : ((r.length : Int) == (r0.length : Int)) = true := by simp [hx]
       have s2 : ((r.length : Int) != (r0.length : Int)) = false := by simp [hx]
       have s3 : (r.length == r0.length) = true := by simp [hx]
       have s4 : (r.length != r0.length) = false := by simp [hx]
       have HX := Lib.hid hx
       clear hx
       go_wp2_with fail
       go_roundw
       case rel => exact ⟨j + 1, by omega, by go_num, Lib.hid (HS.out (by rw [HE.out]; exact HX.out)), HB⟩
       case measure => simp [intOf]; omega
      ·have s1 : ((r.length : Int) == (r0.length : Int)) = false := by simp; omega
       have s2 : ((r.length : Int) != (r0.length : Int)) = true := by simp; omega
       have s3 : (r.length == r0.length) = false := by simp; omega
       have s4 : (r.length != r0.length) = true := by simp; omega
       have HX := Lib.hid (HZ.out hx)
       clear hx
       go_wp2_with fail
       go_ret
       exact ⟨by rw [HX.out]; rfl, HB.out⟩
     ·have hE : ∀ r ∈ m, r.length = (m[0]?.getD []).length := by have := HT.out; rwa [List.take_of_length_le (by omega)] at this
      have HE := Lib.hid hE
      clear hE HT
      go_wp2_with fail
      go_loopw [40] (fun i wr => ∃ j : Nat, j ≤ m.length ∧ i = .int .i64 j ∧ Hid (∀ r ∈ m.take j, ∀ x ∈ r, -1099511627776 ≤ x ∧ x ≤ 1099511627776) ∧ Hid (Below w.heap.size w wr)) (fun i _ => m.length - (intOf i).toNat)
      case atStart => exact ⟨0, by omega, rfl, Lib.hid (by simp), HB⟩
      case round =>
       clear HB hj hlt
       obtain ⟨j, hj, rfl, HT, HB⟩ := hrel
       by_cases hlt : j < m.length
       ·obtain ⟨b, cap, a, c, hv, hb, n1, HI, g1, g2⟩ := (H.out.below HB.out).at_ j hlt
        injection hv with f1 f2 f3
        subst f1
        clear f2 f3
        have i1 : (0 : Int) ≤ (j : Int) := by omega
        have i2 : (j : Int) < (m.length : Int) := by omega
        have h0 : 0 < m.length := by omega
        have HI := Lib.hid HI
        have HM : Hid (m[j] ∈ m) := Lib.hid (List.getElem_mem hlt)
        have HS := Lib.hid (fun h2 => all_take_succ (P := fun r => ∀ x ∈ r, -1099511627776 ≤ x ∧ x ≤ 1099511627776) hlt HT.out h2)
        have HZ : Hid (∀ x ∈ m[j], (x < -1099511627776 ∨ 1099511627776 < x) → checkZ m = 5) := Lib.hid (fun x hx h4 => checkZ_out (by omega) HC.out h0 (fun r hr => by rw [HE.out r hr]; simp [List.getElem?_eq_getElem h0]) HM.out hx h4)
        clear HT
        generalize m[j] = r at *
        go_wp2_with fail
        go_loopw [46] (fun i w2 => ∃ k : Nat, k ≤ r.length ∧ i = .int .i64 k ∧ Hid (∀ x ∈ r.take k, -1099511627776 ≤ x ∧ x ≤ 1099511627776) ∧ Hid (Below wr.heap.size wr w2)) (fun i _ => r.length - (intOf i).toNat)
        case atStart => exact ⟨0, by omega, rfl, Lib.hid (by simp), Lib.hid (Below.refl _ _)⟩
        case round =>
         obtain ⟨k, hk, rfl, HT, HB2⟩ := hrel
         by_cases hk2 : k < r.length
         ·obtain ⟨d, e1, hv1, hb1, m1⟩ := IntsOf.at_ (HI.out.below HB2.out) k hk2
          injection hv1 with f1 f2 f3
          subst f1
          clear f2 f3
          have k1 : (0 : Int) ≤ (k : Int) := by omega
          have k2 : (k : Int) < (r.length : Int) := by omega
          have HT2 := Lib.hid (fun h2 => all_take_succ (P := fun x : Int => -1099511627776 ≤ x ∧ x ≤ 1099511627776) hk2 HT.out h2)
          have HZ2 := Lib.hid (HZ.out r[k] (List.getElem_mem hk2))
          have HB3 := Lib.hid (HB.out.trans (HB2.out.mono HB.out.size))
          generalize r[k] = x at *
          by_cases hx : x < -1099511627776
          ·have HX := Lib.hid (HZ2.out (Or.inl hx))
           go_wp2_with fail
           go_ret
           exact ⟨by rw [HX.out]; rfl, HB3.out⟩
          ·by_cases hx2 : 1099511627776 < x
           ·have HX := Lib.hid (HZ2.out (Or.inr hx2))
            go_wp2_with fail
            go_ret
            exact ⟨by rw [HX.out]; rfl, HB3.out⟩
           ·go_wp2_with fail
            go_roundw
            case rel => exact ⟨k + 1, by omega, by go_num, Lib.hid (HT2.out ⟨by omega, by omega⟩), HB2⟩
            case measure => simp [intOf]; omega
         ·have HB3 := Lib.hid (HB.out.trans (HB2.out.mono HB.out.size))
          have HS2 := Lib.hid (HS.out (by have := HT.out; rwa [List.take_of_length_le (by omega)] at this))
          go_wp2_with fail
          go_roundw
          case rel => exact ⟨j + 1, by omega, by go_num, HS2, HB3⟩
          case measure => simp [intOf]; omega
       ·have HX := Lib.hid (checkZ_ok.2 ⟨by omega, HC.out, HE.out, by have := HT.out; rwa [List.take_of_length_le (by omega)] at this⟩)
        go_wp2_with fail
        go_ret
        exact ⟨by rw [HX.out]; rfl, HB.out⟩
end Go.Proofs.Ytlmbebbdamgfpaa
set_option linter.unusedVariables false
set_option linter.unusedSimpArgs false
namespace Go.Proofs.Ytlmbebbdamgfpaa
open Go.RowKit

/-- the number of columns -/
def colsOf (m : List (List Int)) : Nat := (m[0]?.getD []).length
theorem Checked.sml {m : List (List Int)} (h : Checked m) : Sml m := ⟨h.rows, fun r hr x hx => by
 have := h.small r hr x hx
 have e : (2 : Nat) ^ 40 = 1099511627776 := by decide
 rw [e]
 omega⟩
theorem Checked.len {m : List (List Int)} (h : Checked m) : ∀ r ∈ m, r.length = colsOf m := h.even
theorem Checked.cols_ {m : List (List Int)} (h : Checked m) : colsOf m ≤ 128 := by
 unfold colsOf
 cases m with
 | nil => simp
 | cons r m => simpa using h.cols r (by simp)
/-- rows of wide integers as ints, or an error -/
def SmallPost (H : List (List Int)) (e : Ending) (w' : World) : Prop :=
 (e = .returned (.tuple #[.slice none 0 0, .int .i64 4]) ∧ ∃ r ∈ H, ∃ x ∈ r, ¬ fitZ x) ∨ ∃ u, e = .returned (.tuple #[u, .int .i64 0]) ∧ MatAt w' u H ∧ ∀ r ∈ H, ∀ x ∈ r, fitZ x
/-- what Hermite answers -/
def HermPost (w0 : World) (m : List (List Int)) (e : Ending) (w' : World) : Prop :=
 Below w0.heap.size w0 w' ∧ ((checkZ m ≠ 0 ∧ e = .returned (.tuple #[.slice none 0 0, .int .i64 (checkZ m)])) ∨ (checkZ m = 0 ∧ ∃ H : List (List Int), NormSpec (m.map vec) 0 (H.map vec) ∧ (∀ r ∈ H, r.length = colsOf m) ∧ H.length ≤ m.length ∧ SmallPost H e w'))
/-- normal of rows that are checked -/
theorem normal_chk (w0 : World) (v : Value) (m : List (List Int)) (h : WMat w0 v m) (hc : Checked m) : Calls Try.prog 32 #[v, .int .i64 0] w0 (NormPost w0 m (colsOf m) 0) := by
 have hlen := hc.len
 have hrows := hc.rows
 by_cases h1 : 0 < m.length ∧ 0 < colsOf m
 ·exact normal_any w0 v m (colsOf m) 0 h h1.1 hlen h1.2 (by have := hc.cols_; omega) (Nat.zero_le _) hc.sml
 ·refine normal_void w0 v m (colsOf m) 0 h (by omega) (fun r hr => ?_)
  have := hlen r hr
  have h2 : 0 < m.length := by
   rcases Nat.eq_zero_or_pos m.length with h3 | h3
   ·rw [List.eq_nil_of_length_eq_zero h3] at hr; cases hr
   ·exact h3
  omega
theorem NormPost.small {w0 w : World} {m : List (List Int)} {n fr : Nat} {e : Ending} (h : NormPost w0 m n fr e w) (hm : m.length ≤ 64) (hn : n ≤ 1000) : ∃ vr H, e = .returned vr ∧ Below w0.heap.size w0 w ∧ (∀ r ∈ H, r.length = n - fr) ∧ H.length ≤ m.length ∧ NormSpec (m.map vec) fr (H.map vec) ∧
 Calls Try.prog 31 #[vr] w fun e2 w2 => Below w.heap.size w w2 ∧ SmallPost H e2 w2 := by
 obtain ⟨vr, H, he, h1, h2, h3, h4, h5, h6⟩ := h
 refine ⟨vr, H, he, h6, h2, h4, h5, (smallM_any vr H w h1 (by omega) (fun r hr => by rw [h2 r hr]; omega) (fun r hr x hx => (h3 r hr x hx).mono (by omega))).mono ?_⟩
 rintro e2 w2 ⟨k1, k2⟩
 exact ⟨k1, k2⟩

set_option maxRecDepth 100000 in
set_option maxHeartbeats 8000000 in
theorem hermite_any (w0 : World) (v : Value) (m : List (List Int)) (h : MatAt w0 v m) : Calls Try.prog 14 #[v] w0 (HermPost w0 m) := by
 have H := hZ h
 have HB := hZ (Below.refl w0.heap.size w0)
 obtain ⟨av, cv, rfl, q1, q2⟩ := h.form
 clear h
 go_enter Try.func14, Try.ntmps14
 go_wp2_with fail
 refine (check_any _ m w0 H.o).mono ?_
 rintro e w1 ⟨rfl, hB⟩
 replace HB := bT HB hB
 clear hB
 by_cases hz : checkZ m = 0
 ·have Hc := hZ (checkZ_ok.1 hz)
  have Hz := hZ hz
  rw [hz]
  clear hz
  go_wp2_with fail
  refine (widen_any _ m (colsOf m) w1 (H.o.below HB.o) (by have := Hc.o.rows; omega) Hc.o.len (by have := Hc.o.cols_; omega) (fun r hr x hx => by have := Hc.o.small r hr x hx; omega)).mono ?_
  rintro e w2 ⟨R, l, rfl, h1, h2, h3, h4, h5, hB⟩
  have HN := hZ (normal_chk w2 (.slice (some ⟨R, 0, none⟩) m.length m.length) m (by have := h1.mat (c := m.length) (by omega) (by have := Hc.o.rows; omega); rwa [h2] at this) Hc.o)
  replace HB := bT HB hB
  clear hB h1 h2 h3 h4 h5
  go_wp2_with fail
  refine HN.o.mono ?_
  rintro e w3 hP
  obtain ⟨vr, Hm, rfl, hB, k1, k2, k3, k4⟩ := hP.small Hc.o.rows (by have := Hc.o.cols_; omega)
  replace HB := bT HB hB
  have HS := hZ k4
  have K1 := hZ k1
  have K3 := hZ k3
  have K2 := hZ k2
  clear hB HN hP k1 k2 k3 k4
  go_wp2_with fail
  refine HS.o.mono ?_
  rintro e w4 ⟨hB, ⟨rfl, k5⟩ | ⟨u, rfl, k5, k6⟩⟩
  ·replace HB := bT HB hB
   have K5 := hZ k5
   clear hB k5
   go_wp2_with fail
   exact bodyPost_ret (v := .tuple #[.slice none 0 0, .int .i64 4]) (by simp [results, Try.results14, go_sem]) rfl ⟨HB.o, .inr ⟨Hz.o, Hm, K3.o, by have := K1.o; simpa using this, K2.o, .inl ⟨rfl, K5.o⟩⟩⟩
  ·replace HB := bT HB hB
   have K5 := hZ k5
   have K6 := hZ k6
   clear hB k5 k6
   go_wp2_with fail
   exact bodyPost_ret (v := .tuple #[u, .int .i64 0]) (by simp [results, Try.results14, go_sem]) rfl ⟨HB.o, .inr ⟨Hz.o, Hm, K3.o, by have := K1.o; simpa using this, K2.o, .inr ⟨u, rfl, K5.o, K6.o⟩⟩⟩
 ·have s1 : (checkZ m != 0) = true := by simpa using hz
  have s2 : (checkZ m == 0) = false := by simpa using hz
  have Hz := hZ hz
  clear hz
  obtain ⟨z, hz⟩ : ∃ z, checkZ m = z := ⟨_, rfl⟩
  have Hzz := hZ hz
  rw [hz] at s1 s2 ⊢
  clear hz
  go_wp2_with fail
  exact bodyPost_ret (v := .tuple #[.slice none 0 0, .int .i64 z]) (by simp [results, Try.results14, go_sem]) rfl ⟨HB.o, .inl ⟨Hz.o, by rw [Hzz.o]⟩⟩

end Go.Proofs.Ytlmbebbdamgfpaa
set_option linter.unusedVariables false
set_option linter.unusedSimpArgs false
namespace Go.Proofs.Ytlmbebbdamgfpaa
open Go.RowKit

/-- what Kernel answers -/
def KerPost (w0 : World) (m : List (List Int)) (e : Ending) (w' : World) : Prop :=
 Below w0.heap.size w0 w' ∧ ((checkZ m ≠ 0 ∧ e = .returned (.tuple #[.slice none 0 0, .int .i64 (checkZ m)])) ∨ (checkZ m = 0 ∧ ∃ H : List (List Int), KerSpec m (H.map vec) ∧ (∀ r ∈ H, r.length = m.length) ∧ H.length ≤ m.length ∧ SmallPost H e w'))
theorem kerRow_len {n i : Nat} {r : List Int} : (kerRow n r i).length = r.length + n := by simp [kerRow]
theorem kerRows_rows {m : List (List Int)} {c : Nat} (hc : ∀ r ∈ m, r.length = c) : ∀ r ∈ kerRows m, r.length = c + m.length := by
 intro r hr
 obtain ⟨i, hi, rfl⟩ := List.mem_iff_getElem.1 hr
 rw [kerRows_len] at hi
 rw [kerRows_at m i hi, kerRow_len, hc _ (List.getElem_mem _)]
theorem kerRows_sml {m : List (List Int)} (h : Sml m) : Sml (kerRows m) := by
 refine ⟨by rw [kerRows_len]; exact h.1, fun r hr x hx => ?_⟩
 obtain ⟨i, hi, rfl⟩ := List.mem_iff_getElem.1 hr
 rw [kerRows_len] at hi
 rw [kerRows_at m i hi, kerRow] at hx
 have h1 : (1 : Nat) ≤ 2 ^ 40 := Nat.pow_pos (by omega)
 rcases List.mem_append.1 hx with hx | hx
 ·exact h.2 _ (List.getElem_mem _) x hx
 ·rcases List.mem_or_eq_of_mem_set hx with hx | hx
  ·rw [(List.mem_replicate.1 hx).2]; exact Nat.zero_le _
  ·rw [hx]; exact h1
theorem ker_row_end {row : List Int} {c r n j : Nat} (hc : row.length = c) (hn : n = c + r) (hj : j < r) : (((row ++ List.replicate r 0).take c ++ (List.replicate n 0).drop c).set (c + j) 1) = kerRow r row j := by
 subst hc hn
 have e1 : (row ++ List.replicate r (0 : Int)).take row.length = row := by rw [List.take_left]
 have e2 : (List.replicate (row.length + r) (0 : Int)).drop row.length = List.replicate r 0 := by simp
 rw [e1, e2, List.set_append_right _ _ (by omega)]
 simp [kerRow]

set_option maxRecDepth 100000 in
set_option maxHeartbeats 8000000 in
theorem kernel_any (w0 : World) (v : Value) (m : List (List Int)) (h : MatAt w0 v m) : Calls Try.prog 18 #[v] w0 (KerPost w0 m) := by
 have H := hZ h
 have HB := hZ (Below.refl w0.heap.size w0)
 obtain ⟨av, cv, rfl, q1, q2⟩ := h.form
 clear h
 go_enter Try.func18, Try.ntmps18
 go_wp2_with fail
 refine (check_any _ m w0 H.o).mono ?_
 rintro e w1 ⟨rfl, hB⟩
 replace HB := bT HB hB
 clear hB
 by_cases hz : checkZ m = 0
 rotate_left
 ·have s1 : (checkZ m != 0) = true := by simpa using hz
  have s2 : (checkZ m == 0) = false := by simpa using hz
  have Hz := hZ hz
  clear hz
  obtain ⟨z, hz⟩ : ∃ z, checkZ m = z := ⟨_, rfl⟩
  have Hzz := hZ hz
  rw [hz] at s1 s2 ⊢
  clear hz
  go_wp2_with fail
  exact bodyPost_ret (v := .tuple #[.slice none 0 0, .int .i64 z]) (by simp [results, Try.results18, go_sem]) rfl ⟨HB.o, .inl ⟨Hz.o, by rw [Hzz.o]⟩⟩
 have Hc := hZ (checkZ_ok.1 hz)
 have Hz := hZ hz
 have hrows := Hc.o.rows
 have hcols := Hc.o.cols_
 rw [hz]
 clear hz
 by_cases hm0 : m.length = 0
 ·have s1 : ((m.length : Int) == 0) = true := by simp [hm0]
  have s2 : (m.length == 0) = true := by simp [hm0]
  have Hm : Hid (m = []) := hZ (List.eq_nil_of_length_eq_zero hm0)
  have HK : Hid (KerSpec m (([] : List (List Int)).map vec)) := hZ (by
   rw [Hm.o]
   refine ⟨trivial, fun v => ⟨fun h => ⟨fun j _ => span_nil h j, fun j => rfl⟩, fun h => InSpan.zero.congr (fun j => (h.1 j (Nat.zero_le _)).symm)⟩⟩)
  go_wp2_with fail
  exact bodyPost_ret (v := .tuple #[.slice none 0 0, .int .i64 0]) (by simp [results, Try.results18, go_sem]) rfl ⟨HB.o, .inr ⟨Hz.o, [], HK.o, by simp, by simp, .inr ⟨_, rfl, SliceOf.nil _ _ (by omega), by simp⟩⟩⟩
 have s1 : ((m.length : Int) == 0) = false := by rw [beq_eq_false_iff_ne]; omega
 have s2 : (m.length == 0) = false := by rw [beq_eq_false_iff_ne]; omega
 have hpos : 0 < m.length := by omega
 have hpos1 : (0 : Int) < (m.length : Int) := by omega
 obtain ⟨c, hc⟩ : ∃ c, colsOf m = c := ⟨_, rfl⟩
 rw [hc] at hcols
 have Hn : Hid (∀ r ∈ m, r.length = c) := hZ (by rw [← hc]; exact Hc.o.len)
 have Hs : Hid (∀ r ∈ m, ∀ x ∈ r, -9223372036854775808 ≤ x ∧ x ≤ 9223372036854775807) := hZ (fun r hr x hx => by have := Hc.o.small r hr x hx; omega)
 clear hc
 obtain ⟨b0, cap0, a0, c0, hv0, hb0, n0, -, -, -⟩ := H.o.at_ 0 hpos
 rw [Hn.o _ (List.getElem_mem hpos)] at n0
 injection hv0 with f1 f2 f3
 subst f1
 clear f2 f3
 replace n0 := (HB.o.cell (p := ⟨b0, 0, none⟩) hb0).trans n0
 obtain ⟨n, hn⟩ : ∃ n, c + m.length = n := ⟨_, rfl⟩
 have hn2 : n ≤ 1000 := by omega
 have HSz := hZ HB.o.size
 go_wp2_with (at_make; refine wpList_make_rows rfl rfl (m.length) rfl rfl rfl rfl (by omega) ?_)
 intro w2 h_9 hB hlt9
 obtain ⟨R, hb⟩ : ∃ b, w1.heap.size = b := ⟨_, rfl⟩
 rw [hb] at h_9 ⊢
 have Ob' := hZ h_9
 have hge_R : Hid (w1.heap.size ≤ R) := hZ (Nat.le_of_eq hb)
 have hlt_R : Hid (R < w2.heap.size) := hZ (by rw [← hb]; exact hlt9)
 clear h_9 hb hlt9
 replace HB := bT HB hB
 clear hB
 have Ob := Ob'
 clear Ob'
 clear n0 s1 s2
 go_wp2_with fail
 have HgR : Hid (w0.heap.size ≤ R) := hZ (Nat.le_trans HSz.o hge_R.o)
 clear hge_R hlt_R
 go_loopw [28] (fun i wr => ∃ (j : Nat) (l : List Rw), j ≤ m.length ∧ i = .int .i64 j ∧ Hid (l.length = j ∧ (∀ k (h : k < l.length), R < l[k].1) ∧ ∀ k (h : k < l.length), l[k].2 = n) ∧ Hid (BlkC wr R 55 (rwZ n l (m.length - j))) ∧ Hid (RowsIn wr l n ((kerRows m).take j)) ∧ Hid (Below w0.heap.size w0 wr)) (fun i _ => m.length - (intOf i).toNat)
 case atStart => exact ⟨0, [], by omega, rfl, hZ ⟨rfl, fun k h => by simp at h, fun k h => by simp at h⟩, hZ (by simpa [rwZ] using Ob.o), hZ (RowsIn.nil _ _), HB⟩
 case round =>
  clear HB Ob
  obtain ⟨j, l, hj, rfl, HL, Ob, RI, HB⟩ := hrel
  obtain ⟨w2, rfl⟩ : ∃ w' : World, w' = wr := ⟨_, rfl⟩
  by_cases hlt : j < m.length
  ·skip
   obtain ⟨b, cap, a, cx, hv, hb, n1, HI, g1, g2⟩ := H.o.at_ j hlt
   injection hv with f1 f2 f3
   injection f1 with f1
   injection f1 with f1
   subst f1
   clear f2 f3
   have HI := hZ HI
   have Hr : Hid (m[j].length = c) := hZ (Hn.o _ (List.getElem_mem hlt))
   have Hsr : Hid (∀ x ∈ m[j], -9223372036854775808 ≤ x ∧ x ≤ 9223372036854775807) := hZ (Hs.o _ (List.getElem_mem hlt))
   have HM : Hid ((kerRows m).take (j + 1) = (kerRows m).take j ++ [kerRow m.length m[j] j]) := hZ (by rw [List.take_succ_eq_append_getElem (by rw [kerRows_len]; exact hlt), kerRows_at m j hlt])
   replace n1 := (HB.o.cell (p := ⟨b0, j, none⟩) hb).trans n1
   generalize m[j] = r at *
   have HI0 := hZ (And.intro HI.o g1)
   clear HI
   rw [Hr.o] at n1 HI0
   have i1 : (0 : Int) ≤ (j : Int) := by omega
   have i2 : (j : Int) < (m.length : Int) := by omega
   obtain ⟨HI1, g3⟩ := HI0.o
   have HI := hZ HI1
   clear HI0 HI1 g1
   have g1 := g3
   clear g3
   go_wp2_with (at_make; refine wpList_make_wide rfl rfl (n) rfl rfl (by omega) (by omega) (by omega) ?_)
   intro w3 h_9 hB hlt9
   obtain ⟨g, hb⟩ : ∃ b, w2.heap.size = b := ⟨_, rfl⟩
   rw [hb] at h_9 ⊢
   have Rr' := hZ h_9
   have hge_g : Hid (w2.heap.size ≤ g) := hZ (Nat.le_of_eq hb)
   have hlt_g : Hid (g < w3.heap.size) := hZ (by rw [← hb]; exact hlt9)
   have HLg : Hid ((∀ k (h : k < l.length), l[k].1 < g) ∧ R < g) := hZ ⟨fun k h => by rw [← hb]; exact RI.o.lt k h, by rw [← hb]; exact Ob.o.lt⟩
   clear h_9 hb hlt9
   replace Ob := hZ (Ob.o.blw hB)
   replace RI := hZ (RI.o.blw hB)
   replace HB := bT HB hB
   clear hB
   have Rr := Rr'
   clear Rr'
   have HGG : Hid (w0.heap.size ≤ g) := hZ (by have := HLg.o.2; have := HgR.o; omega)
   clear hge_g hlt_g
   have Hk : Hid (m.length - j = (m.length - (j + 1)) + 1) := hZ (by omega)
   rw [Hk.o] at Ob
   have e0 : w3.cell? ⟨R, j, none⟩ = some (.slice none 0 0) := (Ob.o.cell j).trans (by rw [← HL.o.1]; exact rwZ_at_next)
   have e2 := Ob.o.frozen (j)
   obtain ⟨w4, hw⟩ : ∃ w', w3.setCell ⟨R, j, none⟩ (.slice (some ⟨g, 0, none⟩) n n) = w' := ⟨_, rfl⟩
   have ho : Only (fun b => b = R) w3 w4 := by rw [← hw]; exact (Only.refl (fun b => b = R) _).set (p := ⟨R, j, none⟩) rfl _
   have hN : ∀ b, b = R → NoInt w3 b := fun b e => e ▸ Ob.o.noInt rwZ_noInt
   replace Ob := hZ ((by have h1 := Ob.o.set j (.slice (some ⟨g, 0, none⟩) n n); rw [hw, rwZ_set' n HL.o.1] at h1; exact h1))
   replace RI := hZ (RI.o.only ho hN (fun i hi => by intro (e : _ = R); have := HL.o.2.1 i hi; omega))
   replace Rr := hZ (Rr.o.only ho hN (by intro (e : _ = R); have := HLg.o.2; omega))
   replace HB := hZ (below_only HB.o ho (fun b e => by have := HgR.o; omega) HB.o.size)
   clear ho hN
   go_wp2_with fail
   clear hw e0 e2
   have HAl : Hid ((r ++ List.replicate m.length (0 : Int)).length = (List.replicate n (0 : Int)).length) := hZ (by have := Hr.o; simp; omega)
   go_loopw [43] (fun i wr => ∃ q : Nat, q ≤ c ∧ i = .int .i64 q ∧ Hid (BlkC wr R 55 (rwZ n (l ++ [(g, n)]) (m.length - (j + 1)))) ∧ Hid (RowsIn wr l n ((kerRows m).take j)) ∧ Hid (WRow wr g ((r ++ List.replicate m.length 0).take q ++ (List.replicate n 0).drop q)) ∧ Hid (Below w0.heap.size w0 wr)) (fun i _ => c - (intOf i).toNat)
   case atStart => exact ⟨0, by omega, rfl, Ob, RI, hZ (by simpa using Rr.o), HB⟩
   case round =>
    clear Ob RI Rr HB
    obtain ⟨q, hq, rfl, Ob, RI, Rr, HB⟩ := hrel
    obtain ⟨w4, rfl⟩ : ∃ w' : World, w' = wr := ⟨_, rfl⟩
    by_cases hql : q < c
    ·skip
     have i3 : (0 : Int) ≤ (q : Int) := by omega
     have i4 : (q : Int) < (c : Int) := by omega
     have i5 : (q : Int) < (n : Int) := by omega
     have Hqr : Hid (q < r.length) := hZ (by have := Hr.o; omega)
     obtain ⟨b2, cap2, hv, hb2, n2⟩ := (IntsOf.below HI.o HB.o).at_ q Hqr.o
     rw [Hr.o] at hv
     injection hv with f1 f2 f3
     subst f1
     clear f2 f3
     have Hz2 : Hid (-9223372036854775808 ≤ r[q]'Hqr.o ∧ r[q]'Hqr.o ≤ 9223372036854775807) := hZ (Hsr.o _ (List.getElem_mem _))
     obtain ⟨z, hz⟩ : ∃ z, r[q]'Hqr.o = z := ⟨_, rfl⟩
     have HZ := hZ hz
     rw [hz] at Hz2 n2
     clear hz
     go_wp2_with fail
     clear n2
     obtain ⟨w5, hwd⟩ : ∃ w', w4.drew = w' := ⟨_, rfl⟩
     have hB := dB hwd
     replace Ob := hZ (Ob.o.blw hB)
     replace RI := hZ (RI.o.blw hB)
     replace Rr := hZ (Rr.o.blw hB)
     replace HB := bT HB hB
     clear hB
     have HBr : Hid (Only (fun b => False) w5 w5) := hZ (Only.refl _ _)
     refine startL [8] (fun w' => Only (fun b => False) w5 w') (by kernel_rfl) (by rw [hwd]; exact Only.refl _ _) (fun hHeld => ?_)
     rw [hwd] at hHeld ⊢
     clear hwd
     have e0 : w5.cell? ⟨R, j, none⟩ = some (.slice (some ⟨g, 0, none⟩) n n) := (Ob.o.cell j).trans (by have h1 := HL.o.1; subst h1; rw [rwZ_at (by simp)]; simp)
     refine pP 0 48 (v := ?_) rfl rfl ?_ ?_
     rotate_left
     ·(intro w; go_simp; first | done | with_reducible rfl)
     simp only [sX1, sX2, sX3]
     refine pP 1 49 (v := ?_) rfl rfl ?_ ?_
     rotate_left
     ·(intro w; go_simp; first | done | with_reducible rfl)
     simp only [sX1, sX2, sX3]
     refine pP 2 50 (v := ?_) rfl rfl ?_ ?_
     rotate_left
     ·(intro w; go_simp; first | done | with_reducible rfl)
     simp only [sX1, sX2, sX3]
     refine tP 3 51 (v := ?_) rfl rfl ?_ ?_
     rotate_left
     ·(intro w hSw; have x0 := (hSw.cell (p := ⟨R, j, none⟩) (fun h => h) Ob.o.lt).trans e0; go_simp; first | done | with_reducible rfl)
     simp only [sX1, sX2, sX3]
     refine pP 4 52 (v := ?_) rfl rfl ?_ ?_
     rotate_left
     ·(intro w; go_simp; first | done | with_reducible rfl)
     simp only [sX1, sX2, sX3]
     refine pP 5 53 (v := ?_) rfl rfl ?_ ?_
     rotate_left
     ·(intro w; go_simp; first | done | with_reducible rfl)
     simp only [sX1, sX2, sX3]
     refine stepL 6 (by kernel_rfl) rfl (fun K hK => ?_)
     go_simp
     refine (from_b (w := w5) z Hz2.o.1 Hz2.o.2).mono ?_
     rintro e w6 ⟨s_z, a_z, n_z, c_z, rfl, h_z, hB⟩
     have Vz := hZ h_z
     replace HBr := oT HBr hB
     replace Ob := hZ (Ob.o.blw hB)
     replace RI := hZ (RI.o.blw hB)
     replace Rr := hZ (Rr.o.blw hB)
     replace HB := bT HB hB
     clear hB
     clear h_z
     refine hK.out _ _ HBr.o (fun hHeld => ?_)
     clear hK K
     try simp only [Act.put, sX1, sX2, sX3]
     refine pP 7 55 (v := ?_) rfl rfl ?_ ?_
     rotate_left
     ·(intro w; go_simp; first | done | with_reducible rfl)
     simp only [sX1, sX2, sX3]
     obtain ⟨s_9, a_9, n_9, c_9, e0, e1, -⟩ := Rr.o.get (q) (by rw [td_len HAl.o (by simp; omega)]; simp; omega)
     have e2 := Rr.o.frozen (q * 2)
     have e3 := Rr.o.frozen (q * 2 + 1)
     have hn9 : NoInt w6 (g) := Rr.o.noInt
     obtain ⟨w7, hw⟩ : ∃ w', (w6.setCell ⟨g, q * 2, none⟩ (.bool s_z)).setCell ⟨g, q * 2 + 1, none⟩ (.slice a_z n_z c_z) = w' := ⟨_, rfl⟩
     have hw2 : st2 w6 (g) (q * 2) (q * 2 + 1) s_z a_z n_z c_z = w7 := hw
     replace Rr := hZ (WRow.put' Rr.o (q) (by rw [td_len HAl.o (by simp; omega)]; simp; omega) Vz.o)
     rw [hw2] at Rr
     replace Ob := hZ (Ob.o.offe hw2 (by have := HLg.o.2; omega))
     replace RI := hZ (RowsIn.off (g := g) (o1 := q * 2) (o2 := q * 2 + 1) (s := s_z) (a := a_z) (n' := n_z) (c := c_z) RI.o hn9 (fun i hi => by have := HLg.o.1 i hi; omega))
     rw [hw2] at RI
     replace Vz := hZ (Vz.o.offe hw2 hn9)
     replace HB := hZ (bO hw2 HB.o HGG.o)
     clear hw2 hn9
     refine lateL 8 (by kernel_rfl) (by decide) rfl (fun K hK => ?_)
     go_simp
     try rw [hw]
     refine hK.out _ _ ?_
     clear hK K
     try simp only [Act.put, sX1, sX2, sX3]
     clear hw e0 e1 e2 e3
     refine doneL (by kernel_rfl) ?_ _
     clear hHeld
     clear e0
     go_wp2_with fail
     have hAq : (r ++ List.replicate m.length (0 : Int))[q]'(by have := Hqr.o; simp; omega) = z := by rw [List.getElem_append_left Hqr.o, HZ.o]
     replace Rr : Hid (WRow w7 g ((r ++ List.replicate m.length 0).take (q + 1) ++ (List.replicate n 0).drop (q + 1))) := hZ (by have h1 := Rr.o; rw [← hAq, td_set HAl.o (by simp; omega)] at h1; exact h1)
     go_roundw
     case rel => exact ⟨q + 1, by omega, by go_num, Ob, RI, Rr, HB⟩
     case measure => simp [intOf]; omega
    ·skip
     obtain rfl : q = c := by omega
     obtain ⟨s, hs⟩ : ∃ s, q + j = s := ⟨_, rfl⟩
     have hwr : IntKind.i64.wrap ((q : Int) + (j : Int)) = (s : Int) := by rw [IntWalk.i64_in _ (by omega)]; omega
     have j1 : (0 : Int) ≤ (s : Int) := by omega
     have j2 : (s : Int) < (n : Int) := by omega
     go_wp2_with fail
     obtain ⟨w5, hwd⟩ : ∃ w', w4.drew = w' := ⟨_, rfl⟩
     have hB := dB hwd
     replace Ob := hZ (Ob.o.blw hB)
     replace RI := hZ (RI.o.blw hB)
     replace Rr := hZ (Rr.o.blw hB)
     replace HB := bT HB hB
     clear hB
     have HBr : Hid (Only (fun b => False) w5 w5) := hZ (Only.refl _ _)
     refine startL [9] (fun w' => Only (fun b => False) w5 w') (by kernel_rfl) (by rw [hwd]; exact Only.refl _ _) (fun hHeld => ?_)
     rw [hwd] at hHeld ⊢
     clear hwd
     have e0 : w5.cell? ⟨R, j, none⟩ = some (.slice (some ⟨g, 0, none⟩) n n) := (Ob.o.cell j).trans (by have h1 := HL.o.1; subst h1; rw [rwZ_at (by simp)]; simp)
     refine pP 0 57 (v := ?_) rfl rfl ?_ ?_
     rotate_left
     ·(intro w; go_simp; first | done | with_reducible rfl)
     simp only [sX1, sX2, sX3]
     refine pP 1 58 (v := ?_) rfl rfl ?_ ?_
     rotate_left
     ·(intro w; go_simp; first | done | with_reducible rfl)
     simp only [sX1, sX2, sX3]
     refine pP 2 59 (v := ?_) rfl rfl ?_ ?_
     rotate_left
     ·(intro w; go_simp; first | done | with_reducible rfl)
     simp only [sX1, sX2, sX3]
     refine tP 3 60 (v := ?_) rfl rfl ?_ ?_
     rotate_left
     ·(intro w hSw; have x0 := (hSw.cell (p := ⟨R, j, none⟩) (fun h => h) Ob.o.lt).trans e0; go_simp; first | done | with_reducible rfl)
     simp only [sX1, sX2, sX3]
     refine pP 4 61 (v := ?_) rfl rfl ?_ ?_
     rotate_left
     ·(intro w; go_simp; first | done | with_reducible rfl)
     simp only [sX1, sX2, sX3]
     refine pP 5 62 (v := ?_) rfl rfl ?_ ?_
     rotate_left
     ·(intro w; go_simp; first | done | with_reducible rfl)
     simp only [sX1, sX2, sX3]
     refine pP 6 63 (v := ?_) rfl rfl ?_ ?_
     rotate_left
     ·(intro w; go_simp; first | done | with_reducible rfl)
     simp only [sX1, sX2, sX3]
     refine stepL 7 (by kernel_rfl) rfl (fun K hK => ?_)
     go_simp
     refine (from_b (w := w5) 1 (by omega) (by omega)).mono ?_
     rintro e w6 ⟨s_z, a_z, n_z, c_z, rfl, h_z, hB⟩
     have Vz := hZ h_z
     replace HBr := oT HBr hB
     replace Ob := hZ (Ob.o.blw hB)
     replace RI := hZ (RI.o.blw hB)
     replace Rr := hZ (Rr.o.blw hB)
     replace HB := bT HB hB
     clear hB
     clear h_z
     refine hK.out _ _ HBr.o (fun hHeld => ?_)
     clear hK K
     try simp only [Act.put, sX1, sX2, sX3]
     refine pP 8 65 (v := ?_) rfl rfl ?_ ?_
     rotate_left
     ·(intro w; go_simp; first | done | with_reducible rfl)
     simp only [sX1, sX2, sX3]
     obtain ⟨s_9, a_9, n_9, c_9, e0, e1, -⟩ := Rr.o.get (s) (by rw [td_len HAl.o (by simp; omega)]; simp; omega)
     have e2 := Rr.o.frozen (s * 2)
     have e3 := Rr.o.frozen (s * 2 + 1)
     have hn9 : NoInt w6 (g) := Rr.o.noInt
     obtain ⟨w7, hw⟩ : ∃ w', (w6.setCell ⟨g, s * 2, none⟩ (.bool s_z)).setCell ⟨g, s * 2 + 1, none⟩ (.slice a_z n_z c_z) = w' := ⟨_, rfl⟩
     have hw2 : st2 w6 (g) (s * 2) (s * 2 + 1) s_z a_z n_z c_z = w7 := hw
     replace Rr := hZ (WRow.put' Rr.o (s) (by rw [td_len HAl.o (by simp; omega)]; simp; omega) Vz.o)
     rw [hw2] at Rr
     replace Ob := hZ (Ob.o.offe hw2 (by have := HLg.o.2; omega))
     replace RI := hZ (RowsIn.off (g := g) (o1 := s * 2) (o2 := s * 2 + 1) (s := s_z) (a := a_z) (n' := n_z) (c := c_z) RI.o hn9 (fun i hi => by have := HLg.o.1 i hi; omega))
     rw [hw2] at RI
     replace Vz := hZ (Vz.o.offe hw2 hn9)
     replace HB := hZ (bO hw2 HB.o HGG.o)
     clear hw2 hn9
     refine lateL 9 (by kernel_rfl) (by decide) rfl (fun K hK => ?_)
     go_simp
     try rw [hw]
     refine hK.out _ _ ?_
     clear hK K
     try simp only [Act.put, sX1, sX2, sX3]
     clear hw e0 e1 e2 e3
     refine doneL (by kernel_rfl) ?_ _
     clear hHeld
     clear e0
     go_wp2_with fail
     go_roundw
     case rel =>
      have hR := Rr.o
      rw [← hs, ker_row_end Hr.o hn.symm hlt] at hR
      exact ⟨j + 1, l ++ [(g, n)], by omega, by go_num, hZ ⟨by have := HL.o.1; simp; omega, snoc_all (P := fun (x : Rw) => R < x.1) HL.o.2.1 HLg.o.2, snoc_all (P := fun (x : Rw) => x.2 = n) HL.o.2.2 rfl⟩, Ob, hZ (by rw [HM.o]; exact RI.o.snoc hR (by rw [kerRow_len, Hr.o]; exact hn) (fun i hi => by have := HLg.o.1 i hi; omega) (Nat.le_refl _) (by omega)), HB⟩
     case measure => simp [intOf]; omega
  ·skip
   obtain rfl : j = m.length := by omega
   have h1 := Ob.o
   rw [Nat.sub_self] at h1
   have h2 := RI.o
   rw [List.take_of_length_le (by rw [kerRows_len]; exact Nat.le_refl _)] at h2
   have h3 : RwAt w2 R l n (kerRows m) := ⟨by simpa [rwZ] using h1, h2, fun i hi => by have := HL.o.2.1 i hi; omega⟩
   have h4 := h3.mat (c := m.length) (by have := HL.o.1; omega) (by omega)
   rw [HL.o.1] at h4
   have HN := hZ (normal_any w2 _ (kerRows m) n c h4 (by rw [kerRows_len]; exact hpos) (by rw [← hn]; exact kerRows_rows Hn.o) (by omega) hn2 (by omega) (kerRows_sml Hc.o.sml))
   clear h1 h2 h3 h4
   go_wp2_with fail
   refine HN.o.mono ?_
   rintro e w3 hP
   obtain ⟨vr, Hm, rfl, hB, k1, k2, k3, k4⟩ := hP.small (by rw [kerRows_len]; omega) hn2
   have K1 := hZ k1
   have K2 := hZ k2
   have K3 := hZ (ker_spec Hn.o k3)
   have HS := hZ k4
   rw [kerRows_len] at K2
   clear HN hP k1 k2 k3 k4
   have Hnc : Hid (n - c = m.length) := hZ (by omega)
   rw [Hnc.o] at K1
   replace Ob := hZ (Ob.o.blw hB)
   replace RI := hZ (RI.o.blw hB)
   replace HB := bT HB hB
   clear hB
   go_wp2_with fail
   refine HS.o.mono ?_
   rintro e w4 ⟨hB, ⟨rfl, k5⟩ | ⟨u, rfl, k5, k6⟩⟩
   ·skip
    have K5 := hZ k5
    clear k5
    replace HB := bT HB hB
    clear hB
    go_wp2_with fail
    exact bodyPost_ret (v := .tuple #[.slice none 0 0, .int .i64 4]) (by simp [results, Try.results18, go_sem]) rfl ⟨HB.o, .inr ⟨Hz.o, Hm, K3.o, K1.o, K2.o, .inl ⟨rfl, K5.o⟩⟩⟩
   ·skip
    have K5 := hZ k5
    have K6 := hZ k6
    clear k5 k6
    replace HB := bT HB hB
    clear hB
    go_wp2_with fail
    exact bodyPost_ret (v := .tuple #[u, .int .i64 0]) (by simp [results, Try.results18, go_sem]) rfl ⟨HB.o, .inr ⟨Hz.o, Hm, K3.o, K1.o, K2.o, .inr ⟨u, rfl, K5.o, K6.o⟩⟩⟩
end Go.Proofs.Ytlmbebbdamgfpaa
