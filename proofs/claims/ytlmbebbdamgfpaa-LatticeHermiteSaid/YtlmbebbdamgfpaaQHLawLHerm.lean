/- worldmintlaw06.LatticeHermite. -/
import Derived.Test.YtlmbebbdamgfpaaQHLTail
import Derived.Test.YtlmbebbdamgfpaaQHLNHerm
set_option linter.unusedVariables false
set_option linter.unusedSimpArgs false
set_option maxHeartbeats 8000000
set_option maxRecDepth 100000
namespace Go.Proofs.Ytlmbebbdamgfpaa
open Go.RowKit
theorem qDi (vl : Value) (zl : List Int) (nl : Nat) (at_ k : Int) (w0 : World) (hl : qB9 w0 vl zl nl) (ha1 : -9223372036854775808 <= at_) (ha2 : at_ <= 9223372036854775807) (hk1 : -9223372036854775808 <= k) (hk2 : k <= 9223372036854775807) :
 Calls Try.prog 3 #[vl, .int .i64 at_, .int .i64 k] w0 fun e w' => e = .returned (.bool true) /\ Below w0.heap.size w0 w' := by
 have HB := hZ (Below.refl w0.heap.size w0); have HL := hZ hl; clear hl
 go_enter Try.func3, Try.ntmps3
 go_wp2_with fail
 refine (qDz vl zl nl 1099511627776 w0 HL.o (by omega) (by omega)).mono ?_; rintro e w1 ⟨m, u, rfl, hu, hS, hB⟩; have HM := hZ hu; have S := hZ hS; replace HB := bT HB hB; clear hu hS hB HL; obtain ⟨am, cm, rfl, q1, q2⟩ := HM.o.form; obtain ⟨n, hn5, hn⟩ := S.o.cols; have Hlen := hZ hn; have HRows := hZ S.o.rows; clear hn
 go_wp2_with fail
 refine (qCD w1 _ m n at_ k HM.o (by have := HRows.o; omega) Hlen.o (by omega) ha1 ha2).mono ?_; rintro e w2 ⟨us, rfl, hy, hB⟩; have HSp' : Hid (qAA w2 us (qC8 m n at_ k)) := hZ (by obtain ⟨l, hl⟩ := hy; exact hl.mat); clear hy; replace HM := HM.b hB; replace HB := bT HB hB; clear hB; obtain ⟨as9, cs9, rfl, -, -⟩ := HSp'.o.form; rw [qBl] at HSp' ⊢; have HSp := HSp'; clear HSp'; have HN := hZ (qD2 w2); obtain ⟨w3, hw8⟩ := eX (w2.alloc (.cells #[] 22)); rw [hw8] at HN; have HS : Hid (Below w2.heap.size w2 w3) := hZ (by rw [<- hw8]; exact (Below.refl _ _).alloc (Nat.le_refl _) _)
 go_wp2_with (at_builtin; refine qCo (W0 := w2) rfl _ _ rfl (.slice (some ⟨w2.heap.size, 0, none⟩) 0 0) (.slice am m.length cm) 0 [] m rfl rfl HM.o HN.o HS.o (by have := HRows.o; omega) ?_)
 intro v3 w4' ms hms ho3 hb3; obtain ⟨w4, rfl⟩ := eY w4'; clear hw8 HN HS; have HO : Hid (w4.ownsRow w2.heap.size 22 1 v3 m.length ms) := hZ (by first | exact ho3.o | (have h9 := ho3.o; rwa [Nat.zero_add, List.nil_append] at h9)); have HS := hb3; clear hb3 ho3; have hra := qAW at_ 4 (by omega); obtain ⟨a3, c3, rfl, -, -⟩ := qCE HO.o
 go_wp2_with fail
 refine (qBn at_ 4 w4 ha1 ha2 (by omega) (by omega)).mono ?_; rintro e w9 ⟨rfl, hw9⟩; subst hw9; obtain ⟨r, hr⟩ := Int.eq_ofNat_of_zero_le (show 0 <= qA9 at_ 4 by omega); rw [hr] at hra ⊢; have hr4 : r < 4 := by omega
 clear hr hra; have HS3 := hZ HS.o.size
 go_wp2_with (at_make; refine qAQ rfl rfl r rfl rfl rfl rfl (by omega) ?_)
 intro w5 hbk hB hlt9; have HO3 := hZ (fun b e => (HO.o.lt b e).2); have HO4 : Hid (w5.ownsRow w2.heap.size 22 1 (.slice a3 m.length c3) m.length ms) := hZ (qFg HO.o hB); clear HO; have HO := HO4; clear HO4; have HR : Hid (qAo w5 (.slice (some ⟨w4.heap.size, 0, none⟩) r r) (List.replicate r 0)) := hZ (by have h9 := qBi (cap := r) (l := List.replicate r (0 : Int)) (by rw [List.map_replicate]; exact hbk) (by rw [List.length_replicate]; exact Nat.le_refl _) (by omega); rwa [List.length_replicate] at h9); obtain ⟨gr, hgr⟩ := eX w4.heap.size; rw [hgr] at HR HO3 ⊢; replace HS := hZ (HS.o.trans (hB.mono HS3.o)); have HS4 := hZ HS.o.size; clear hbk hB hlt9 hgr HS3
 go_wp2_with (at_builtin; refine qAX (W0 := w2) (B := w2.heap.size) qCO rfl _ _ rfl [.slice (some ⟨gr, 0, none⟩) r r] 22 (.slice a3 m.length c3) m.length ms rfl rfl rfl (by simp [Value.oneCell']) HO.o HS.o HS4.o (by have := HRows.o; omega) (by omega) ?_)
 intro g9 c5 w9 ho9 hb9 hon9 hc9 hgg; obtain ⟨w6, rfl⟩ := eY w9; have HR5 : Hid (qAo w6 (.slice (some ⟨gr, 0, none⟩) r r) (List.replicate r 0)) := hZ (qDj HR.o hon9.o (fun b e e2 => by injection e with e; injection e with e _ _; have := HO3.o b e2; omega)); have HT : Hid (qAA w6 (.slice (some ⟨g9, 0, none⟩) (m.length + 1) c5) (m ++ [List.replicate r 0])) := hZ (((hms.o.blw hb9.o).snoc HR5.o).mat ho9.o (by have := hms.o.1; simp; omega)); have HS := hb9; clear hms HR HO HO3 HR5 hon9 hgg ho9 hb9 HS4
 skip
 replace HM := hZ (HM.o.below HS.o); replace HSp := hZ (HSp.o.below HS.o); replace HB := hZ (HB.o.trans (HS.o.mono HB.o.size)); clear HS; obtain ⟨w7, hw9⟩ := eX (w6.alloc (.cells #[.slice am m.length cm, .slice as9 m.length cs9, .slice (some ⟨g9, 0, none⟩) (m.length + 1) c5] 23)); have HA : Hid (qDq w7 w6.heap.size) := hZ (by rw [<- hw9]; exact qDq.mk HM.o HSp.o HT.o (by have := HRows.o; omega) (by rw [qBl]; have := HRows.o; omega) (by rw [List.length_append, List.length_singleton]; have := HRows.o; omega)); obtain ⟨b9, hb9⟩ := eX w6.heap.size; rw [hb9] at HA; clear HM HSp HT; have hB : Below w6.heap.size w6 w7 := by rw [<- hw9]; exact (Below.refl _ _).alloc (Nat.le_refl _) _
 replace HB := bT HB hB; clear hB
 go_wp2_with fail
 clear hw9 hb9
 go_loopw [9] (fun iv wr => ∃ j : Nat, j <= 3 /\ iv = .int .i64 j /\ Hid (qDq wr b9) /\ Hid (Below w0.heap.size w0 wr)) (fun iv _ => 3 - (intOf iv).toNat)
 case atStart => exact ⟨0, by omega, rfl, HA, HB⟩
 case round =>
  clear HA HB; obtain ⟨j, hj, rfl, HA, HB⟩ := hrel; obtain ⟨w7, rfl⟩ := eY wr; by_cases hj3 : j < 3
  ·skip
   have j1 : (0 : Int) <= (j : Int) := by omega
   have j2 : (j : Int) < 3 := by omega
   obtain ⟨ax, cx, M, e0, hm, hm6⟩ := HA.o.2 j hj3; have HM := hZ hm; have Hm6 := hZ hm6; have hbl := HA.o.1; clear hm hm6
   go_wp2_with fail
   refine (qEs w7 _ M HM.o).mono ?_; rintro e w8 h9; obtain ⟨hB, u1, z1, H1, rfl, h1, h2⟩ := h9.val; have e1 := (hB.cell (p := ⟨b9, j, none⟩) hbl).trans e0; clear e0; have hbl2 := Nat.lt_of_lt_of_le hbl hB.size; have M1' := hZ h1; have V1 := hZ h2; clear h1 h2 h9; replace HA := HA.b hB; replace HM := HM.b hB; replace HB := bT HB hB; clear hB; have M1 := M1'; clear M1'
   go_wp2_with fail
   refine (qF7 w8 _ M HM.o Hm6.o).mono ?_; rintro e w9 h9; obtain ⟨hB, u2, z2, H2, rfl, h1, h2⟩ := h9.val; clear e1 hbl2; obtain ⟨hz, hH⟩ := V1.o.uniq h2; subst hz; subst hH; have M2' := hZ h1; clear h1 h2 h9; replace HA := HA.b hB; replace HM := HM.b hB; replace M1 := M1.b hB; replace HB := bT HB hB; clear hB; have M2 := M2'; clear M2'; have s1 : (z1 != z1) = false := by simp
   go_wp2_with fail
   refine (qDY _ _ _ _ w9 M1.o M2.o).mono ?_; rintro e w10 ⟨rfl, hB⟩; rw [decide_eq_true rfl]; replace HA := HA.b hB; replace HM := HM.b hB; replace M1 := M1.b hB; replace M2 := M2.b hB; replace HB := bT HB hB; clear hB
   go_wp2_with fail
   go_roundw
   case rel => exact ⟨j + 1, by omega, by go_num, HA, HB⟩
   case measure => simp [intOf]; omega
  ·skip
   obtain rfl : j = 3 := by omega
   go_wp2_with fail
   refine (qDh w7).mono ?_; rintro e w8 ⟨rfl, hB⟩; replace HB := bT HB hB; clear hB
   go_wp2_with fail
   go_ret; exact ⟨rfl, HB.o⟩
end Go.Proofs.Ytlmbebbdamgfpaa
