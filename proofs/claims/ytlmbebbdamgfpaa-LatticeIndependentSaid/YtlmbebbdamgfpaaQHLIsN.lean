/- lattice.isNormal. -/
import Derived.Test.YtlmbebbdamgfpaaQHLInP
import Derived.Test.YtlmbebbdamgfpaaQHLMat
import Derived.Test.YtlmbebbdamgfpaaQHWDivF
set_option linter.unusedVariables false
set_option linter.unusedSimpArgs false
set_option maxHeartbeats 8000000
set_option maxRecDepth 100000
namespace Go.Proofs.Ytlmbebbdamgfpaa
open Go.RowKit
theorem qFp {w : World} {a : Option Addr} {n c : Nat} {r : List Int} (h : qAo w (.slice a n c) r) (q : Nat) (hq : q < r.length) : ∃ b, a = some ⟨b, 0, none⟩ /\ n = r.length /\ b < w.heap.size /\ w.cell? ⟨b, q, none⟩ = some (.int .i64 (vec r q)) := by
 obtain ⟨b, cap, hv, h1, h2⟩ := h.at_ q hq; injection hv with e1 e2 e3; exact ⟨b, e1, e2, h1, by rw [qAk hq]; exact h2⟩
def qLw (w0 : World) (b : List (List Int)) (n : Nat) (e : Ending) (w' : World) : Prop :=
 Below w0.heap.size w0 w' /\ ((¬ IsN b n /\ e = .returned (.tuple #[.slice none 0 0, .bool false])) \/ (IsN b n /\ ∃ vp, e = .returned (.tuple #[vp, .bool true]) /\ qAo w' vp (b.map (fun r => (pv r : Int)))))
def qG6 (b : List (List Int)) : Nat -> Int
 | 0 => -1
 | j + 1 => (pv (b[j]?.getD []) : Int)
theorem qJU (b : List (List Int)) (j q : Nat) : (q : Int) <= qG6 b j ↔ ¬ (0 < j -> pv (b[j - 1]?.getD []) < q) := by
 cases j with
 | zero => simp [qG6]; omega
 | succ j => simp [qG6]
theorem qJV {b : List (List Int)} {n j : Nat} (h : ∀ i, i < j -> qMg b n i) (hj : j < b.length) (q : Nat) (hl : 0 < j -> pv (b[j - 1]?.getD []) < q) : ∀ k (hk : k < j), pv (b[k]'(by omega)) < q := by
 intro k hk; have h1 := hl (by omega); rw [List.getElem?_eq_getElem (show j - 1 < b.length by omega), Option.getD_some] at h1; by_cases e : k = j - 1
 ·subst e; exact h1
 ·have := (h (j - 1) (by omega) (by omega)).2.2.2.1 k (by omega)
  omega
theorem qGf (w0 : World) (v : Value) (b : List (List Int)) (n : Nat) (h : qAA w0 v b) (hb : b.length <= 1000) (hn : n <= 1000) : Calls Try.prog 42 #[v, .int .i64 n] w0 (qLw w0 b n) := by
 have H := hZ h; have HB := hZ (Below.refl w0.heap.size w0); obtain ⟨av, cv, rfl, q1, q2⟩ := h.form; clear h; obtain ⟨i0, hi, hz0, hz1, hz2⟩ := info_parts (show (Try.prog.info? 3).map (fun i => (i.zero, i.size, i.bytes)) = some (some (.int .i64 0), 1, 8) by kernel_rfl); have Hi := hZ hi; have Hz0 := hZ hz0; have Hz1 := hZ hz1; have Hz2 := hZ hz2; clear hi hz0 hz1 hz2
 go_enter Try.func42, Try.ntmps42
 go_wp2_with (at_make; refine wpList_make_own _ rfl _ _ 22 rfl w0.heap.size 3 i0 _ 1 Try.underlying22 Hi.o Hz0.o Hz1.o _ _ _ b.length rfl rfl rfl (by rw [Hz2.o]; omega) (by unfold maxLen; omega) (Nat.le_refl _) ?_)
 intro w1 hown hgr; have HO := hZ hown; replace HB := hZ (qCc hgr); obtain ⟨g, hg⟩ := eX w0.heap.size; have Hg := hZ hg; rw [hg] at HO ⊢; clear hown hgr hg
 go_wp2_with fail
 go_loopw [18, 6, 7] (fun i vp last wr => ∃ (j : Nat) (cp : Nat) (ga : Option Addr), j <= b.length /\ i = .int .i64 j /\ vp = .slice ga j cp /\ j <= cp /\ cp <= 9223372036854775807 /\ last = .int .i64 (qG6 b j) /\ Hid (∀ i, i < j -> qMg b n i) /\ Hid (wr.ownsRow g 3 1 (.slice ga j cp) j ((b.take j).map (fun r => zv (pv r)))) /\ Hid (Below w0.heap.size w0 wr)) (fun i _ _ _ => b.length - (intOf i).toNat)
 case atStart => exact ⟨0, b.length, _, by omega, rfl, rfl, by omega, by omega, rfl, hZ (fun i h => by omega), hZ (by simpa using HO.o), HB⟩
 case round =>
  clear HO HB; obtain ⟨j, cp, ga, hj, rfl, rfl, hcp, hcp2, rfl, HI, HO, HB⟩ := hrel; obtain ⟨w2, rfl⟩ := eY wr; by_cases hlt : j < b.length; rotate_left
  ·obtain rfl : j = b.length := by omega
   generalize qG6 b b.length = lz at *
   go_wp2_with fail
   have h1 := HO.o; rw [List.take_of_length_le (Nat.le_refl _)] at h1; refine bodyPost_ret (v := .tuple #[.slice ga b.length cp, .bool true]) (by simp [results, Try.results42, go_sem]) rfl ⟨HB.o, .inr ⟨HI.o, _, rfl, ?_⟩⟩; refine qEr (base := g) (e := 3) ?_; rw [List.length_map, List.map_map]; exact h1
  have HLZ0 := qJU b j; obtain ⟨lz, hlz⟩ := eX (qG6 b j); rw [hlz] at HLZ0 ⊢; have HLZ := hZ HLZ0; clear hlz HLZ0; obtain ⟨bb, cap, a, c, hv, hbb, n1, HR0, g1, g2⟩ := H.o.at_ j hlt; injection hv with f1 f2 f3; subst f1; clear f2 f3; replace n1 := (HB.o.cell (p := ⟨bb, j, none⟩) hbb).trans n1; have i1 : (0 : Int) <= (j : Int) := by omega
  have i2 : (j : Int) < (b.length : Int) := by omega
  have HR := hZ HR0; obtain ⟨r, hr⟩ := eX (b[j]); have Hr := hZ hr; rw [hr] at n1 HR g1; clear HR0 hr; have fails : ∀ {P : Prop}, (qMg b n j -> False) -> ¬ IsN b n := fun h1 h2 => h1 (h2 j hlt); have Hf := hZ (fun (h1 : qMg b n j -> False) => @fails True h1); clear fails; by_cases hrl : r.length = n; rotate_left
  ·have s1 : ((r.length : Int) != (n : Int)) = true := by simp; omega
   have s2 : (r.length != n) = true := by simp; omega
   have HF := hZ (Hf.o (fun h => hrl (by rw [<- Hr.o]; exact (h hlt).1)))
   go_wp2_with fail
   exact bodyPost_ret (v := .tuple #[.slice none 0 0, .bool false]) (by simp [results, Try.results42, go_sem]) rfl ⟨HB.o, .inl ⟨HF.o, rfl⟩⟩
  have s1 : ((r.length : Int) != (n : Int)) = false := by simp [hrl]
  have s2 : (r.length != n) = false := by simp [hrl]
  go_wp2_with fail
  clear n1
  go_loopw [10] (fun i wr => ∃ q : Nat, q <= n /\ i = .int .i64 q /\ Hid (∀ c, c < q -> vec r c = 0) /\ w2 = wr) (fun i _ => n - (intOf i).toNat)
  case atStart => exact ⟨0, by omega, rfl, hZ (fun c h => by omega), rfl⟩
  case round =>
   obtain ⟨q, hq, rfl, HZ, rfl⟩ := hrel; by_cases hqn : q = n
   ·-- no entry
    have HF := hZ (Hf.o (fun h => by
     have h1 := (h hlt).2.1; rw [Hr.o, qKI (fun c hc => HZ.o c (by omega))] at h1; omega))
    have t1 : ((q : Int) == (n : Int)) = true := by simp [hqn]
    have t2 : (q == n) = true := by simp [hqn]
    have t3 : ¬ (q : Int) < (n : Int) := by omega
    go_wp2_with fail
    exact bodyPost_ret (v := .tuple #[.slice none 0 0, .bool false]) (by simp [results, Try.results42, go_sem]) rfl ⟨HB.o, .inl ⟨HF.o, rfl⟩⟩
   have t1 : ((q : Int) == (n : Int)) = false := by rw [beq_eq_false_iff_ne]; omega
   have t2 : (q == n) = false := by rw [beq_eq_false_iff_ne]; omega
   have t3 : (q : Int) < (n : Int) := by omega
   have t4 : (0 : Int) <= (q : Int) := by omega
   have t5 : (q : Int) < (r.length : Int) := by omega
   obtain ⟨br, rfl, -, hbr, e0⟩ := qFp HR.o q (by omega); replace e0 := (HB.o.cell (p := ⟨br, q, none⟩) hbr).trans e0; obtain ⟨z, hz⟩ := eX (vec r q); have Hz := hZ hz; rw [hz] at e0; clear hz; by_cases hz0 : z = 0
   ·subst hz0
    go_wp2_with fail
    go_roundw
    case rel => exact ⟨q + 1, by omega, by go_num, hZ (fun c hc => if h : c < q then HZ.o c h else by rw [show c = q by omega]; exact Hz.o), by trivial⟩
    case measure => simp [intOf]; omega
   have u1 : (z == 0) = false := by rw [beq_eq_false_iff_ne]; exact hz0
   have Hpv : Hid (pv r = q) := hZ (qLK HZ.o (by omega) (by rw [Hz.o]; exact hz0)); by_cases hzn : z < 0
   ·have HF := hZ (Hf.o (fun h => by
     have h1 := (h hlt).2.2.1; rw [Hr.o, Hpv.o, Hz.o] at h1; omega))
    go_wp2_with fail
    exact bodyPost_ret (v := .tuple #[.slice none 0 0, .bool false]) (by simp [results, Try.results42, go_sem]) rfl ⟨HB.o, .inl ⟨HF.o, rfl⟩⟩
   have hzp : 0 < z := by omega
   by_cases hql : (q : Int) <= lz
   ·have HF := hZ (Hf.o (fun h => by
     refine (HLZ.o q).1 hql (fun h0 => ?_); have h1 := (h hlt).2.2.2.1 (j - 1) (by omega); rw [Hr.o, Hpv.o] at h1; rw [List.getElem?_eq_getElem (show j - 1 < b.length by omega), Option.getD_some]; exact h1))
    go_wp2_with fail
    exact bodyPost_ret (v := .tuple #[.slice none 0 0, .bool false]) (by simp [results, Try.results42, go_sem]) rfl ⟨HB.o, .inl ⟨HF.o, rfl⟩⟩
   have HLq : Hid (0 < j -> pv (b[j - 1]?.getD []) < q) := hZ (Classical.byContradiction (fun h => hql ((HLZ.o q).2 h))); have hjc : (j : Int) <= (cv : Int) := by omega
   have hjc2 : (j : Int) <= (b.length : Int) := by omega
   go_wp2_with fail
   clear e0
   go_loopw [58] (fun i wr => ∃ k : Nat, k <= j /\ i = .int .i64 k /\ Hid (∀ t (ht : t < k), t < j -> 0 <= vec (b[t]?.getD []) q /\ vec (b[t]?.getD []) q < z) /\ Hid (wr.ownsRow g 3 1 (.slice ga j cp) j ((b.take j).map (fun r => zv (pv r)))) /\ Hid (Below w0.heap.size w0 wr)) (fun i _ => j - (intOf i).toNat)
   case atStart => exact ⟨0, by omega, rfl, hZ (fun t h => by omega), HO, HB⟩
   case round =>
    clear HO HB; obtain ⟨k, hk, rfl, HA, HO, HB⟩ := hrel; obtain ⟨w2, rfl⟩ := eY wr; by_cases hkj : k < j
    ·have k1 : (0 : Int) <= (k : Int) := by omega
     have k2 : (k : Int) < (j : Int) := by omega
     obtain ⟨bb2, cap2, a2, c2, hv, hbb2, n1, HA0, g3, g4⟩ := H.o.at_ k (by omega); injection hv with f1 f2 f3; injection f1 with f1; injection f1 with f1; subst f1; clear f2 f3; have hak : b[k].length = n := (HI.o k hkj (by omega)).1; obtain ⟨ar, har⟩ := eX (b[k]'(by omega)); have Har := hZ har; rw [har] at n1 HA0 g3 hak; replace n1 := (HB.o.cell (p := ⟨bb, k, none⟩) hbb).trans n1; obtain ⟨ba, rfl, -, hba, e1⟩ := qFp HA0 q (by omega); replace e1 := (HB.o.cell (p := ⟨ba, q, none⟩) hba).trans e1; obtain ⟨y, hy⟩ := eX (vec ar q); have Hy := hZ hy; rw [hy] at e1; have hq2 : (q : Int) < (ar.length : Int) := by omega
     obtain ⟨br2, hbr2, -, -, e0⟩ := qFp HR.o q (by omega); injection hbr2 with hbr2; injection hbr2 with hbr2; subst hbr2; replace e0 := (HB.o.cell (p := ⟨br, q, none⟩) hbr).trans e0; rw [Hz.o] at e0; have HE0 := hZ e0; have HE1 := hZ e1; have Hba := hZ hba; have Hbr := hZ hbr; have HSz := hZ HB.o.size; clear HA0 har hy; clear e0 e1
     go_wp2_with fail
     clear n1; have HD0 := hZ (Below.refl w2.heap.size w2); by_cases hy0 : y < 0
     ·skip
      obtain ⟨w3, hwd⟩ := eX w2.drew; have hB := dB hwd; replace HB := bT HB hB; replace HD0 := bT HD0 hB; clear hB; have HBr : Hid (qAc (fun b => False) w3 w3) := hZ (qAc.refl _ _); refine qAx [] (fun w' => qAc (fun b => False) w3 w') (by kernel_rfl) (by rw [hwd]; exact qAc.refl _ _) (fun hHeld => ?_); rw [hwd] at hHeld ⊢; clear hwd; have f0 : w3.cell? ⟨br, q, none⟩ = some (.int .i64 z) := (HD0.o.cell (p := ⟨br, q, none⟩) (Nat.lt_of_lt_of_le Hbr.o HSz.o)).trans HE0.o; have f1 : w3.cell? ⟨ba, q, none⟩ = some (.int .i64 y) := (HD0.o.cell (p := ⟨ba, q, none⟩) (Nat.lt_of_lt_of_le Hba.o HSz.o)).trans HE1.o; have hlr : br < w3.heap.size := Nat.lt_of_lt_of_le (Nat.lt_of_lt_of_le Hbr.o HSz.o) HD0.o.size; have hla : ba < w3.heap.size := Nat.lt_of_lt_of_le (Nat.lt_of_lt_of_le Hba.o HSz.o) HD0.o.size; refine pU 0 62 ?_; refine pU 1 63 ?_; refine pU 2 64 ?_; refine tU 3 65 (cF f1 hla) ?_; refine pU 4 66 ?_; refine pU 5 67 ?_; refine sU 6 68 ?_; refine sU 7 69 ?_; refine sU 8 70 ?_; refine sU 9 71 ?_; refine sU 10 72 ?_; refine sU 11 73 ?_; refine sU 12 74 ?_; refine sU 13 75 ?_; refine sU 14 76 ?_; refine pU 15 77 ?_; refine dU ?_; clear hHeld; have HF := hZ (Hf.o (fun h => by
       have h1 := (h hlt).2.2.2.2 k hkj; rw [Hr.o, Har.o, Hpv.o, Hy.o] at h1; omega))
      go_wp2_with fail
      exact bodyPost_ret (v := .tuple #[.slice none 0 0, .bool false]) (by simp [results, Try.results42, go_sem]) rfl ⟨HB.o, .inl ⟨HF.o, rfl⟩⟩
     have hy1 : (y < 0) = False := by simp; omega
     by_cases hyz : y < z
     ·skip
      obtain ⟨w3, hwd⟩ := eX w2.drew; have hB := dB hwd; replace HB := bT HB hB; replace HD0 := bT HD0 hB; clear hB; have HBr : Hid (qAc (fun b => False) w3 w3) := hZ (qAc.refl _ _); refine qAx [] (fun w' => qAc (fun b => False) w3 w') (by kernel_rfl) (by rw [hwd]; exact qAc.refl _ _) (fun hHeld => ?_); rw [hwd] at hHeld ⊢; clear hwd; have f0 : w3.cell? ⟨br, q, none⟩ = some (.int .i64 z) := (HD0.o.cell (p := ⟨br, q, none⟩) (Nat.lt_of_lt_of_le Hbr.o HSz.o)).trans HE0.o; have f1 : w3.cell? ⟨ba, q, none⟩ = some (.int .i64 y) := (HD0.o.cell (p := ⟨ba, q, none⟩) (Nat.lt_of_lt_of_le Hba.o HSz.o)).trans HE1.o; have hlr : br < w3.heap.size := Nat.lt_of_lt_of_le (Nat.lt_of_lt_of_le Hbr.o HSz.o) HD0.o.size; have hla : ba < w3.heap.size := Nat.lt_of_lt_of_le (Nat.lt_of_lt_of_le Hba.o HSz.o) HD0.o.size; refine pU 0 62 ?_; refine pU 1 63 ?_; refine pU 2 64 ?_; refine tU 3 65 (cF f1 hla) ?_; refine pU 4 66 ?_; refine pU 5 67 ?_; refine pU 6 68 ?_; refine pU 7 69 ?_; refine pU 8 70 ?_; refine tU 9 71 (cF f1 hla) ?_; refine pU 10 72 ?_; refine pU 11 73 ?_; refine pU 12 74 ?_; refine tU 13 75 (cF f0 hlr) ?_; refine pU 14 76 ?_; refine pU 15 77 ?_; refine dU ?_; clear hHeld; replace HO := hZ ((qAc.of_below (S := fun _ => False) HD0.o).own HO.o (fun _ _ h => h))
      go_wp2_with fail
      go_roundw
      case rel => exact ⟨k + 1, by omega, by go_num, hZ (fun t ht htj => if h9 : t < k then HA.o t h9 htj else by rw [show t = k by omega, List.getElem?_eq_getElem (show k < b.length by omega), Option.getD_some, Har.o, Hy.o]; exact ⟨by omega, hyz⟩), HO, HB⟩
      case measure => simp [intOf]; omega
     ·skip
      obtain ⟨w3, hwd⟩ := eX w2.drew; have hB := dB hwd; replace HB := bT HB hB; replace HD0 := bT HD0 hB; clear hB; have HBr : Hid (qAc (fun b => False) w3 w3) := hZ (qAc.refl _ _); refine qAx [] (fun w' => qAc (fun b => False) w3 w') (by kernel_rfl) (by rw [hwd]; exact qAc.refl _ _) (fun hHeld => ?_); rw [hwd] at hHeld ⊢; clear hwd; have f0 : w3.cell? ⟨br, q, none⟩ = some (.int .i64 z) := (HD0.o.cell (p := ⟨br, q, none⟩) (Nat.lt_of_lt_of_le Hbr.o HSz.o)).trans HE0.o; have f1 : w3.cell? ⟨ba, q, none⟩ = some (.int .i64 y) := (HD0.o.cell (p := ⟨ba, q, none⟩) (Nat.lt_of_lt_of_le Hba.o HSz.o)).trans HE1.o; have hlr : br < w3.heap.size := Nat.lt_of_lt_of_le (Nat.lt_of_lt_of_le Hbr.o HSz.o) HD0.o.size; have hla : ba < w3.heap.size := Nat.lt_of_lt_of_le (Nat.lt_of_lt_of_le Hba.o HSz.o) HD0.o.size; refine pU 0 62 ?_; refine pU 1 63 ?_; refine pU 2 64 ?_; refine tU 3 65 (cF f1 hla) ?_; refine pU 4 66 ?_; refine pU 5 67 ?_; refine pU 6 68 ?_; refine pU 7 69 ?_; refine pU 8 70 ?_; refine tU 9 71 (cF f1 hla) ?_; refine pU 10 72 ?_; refine pU 11 73 ?_; refine pU 12 74 ?_; refine tU 13 75 (cF f0 hlr) ?_; refine pU 14 76 ?_; refine pU 15 77 ?_; refine dU ?_; clear hHeld; have HF := hZ (Hf.o (fun h => by
       have h1 := (h hlt).2.2.2.2 k hkj; rw [Hr.o, Har.o, Hpv.o, Hy.o, Hz.o] at h1; omega))
      go_wp2_with fail
      exact bodyPost_ret (v := .tuple #[.slice none 0 0, .bool false]) (by simp [results, Try.results42, go_sem]) rfl ⟨HB.o, .inl ⟨HF.o, rfl⟩⟩
    ·obtain rfl : k = j := by omega
     go_wp2_with (at_builtin; refine qAX (W0 := w0) qHd rfl _ _ rfl [.int .i64 (q : Int)] 3 _ _ _ rfl rfl rfl (by simp [Value.oneCell']) HO.o (by rw [<- Hg.o]; exact HB.o) (by rw [<- Hg.o]; exact HB.o.size) (by omega) (by omega) ?_)
     intro g9 cap9 w9 ho9 hb9 hon9 hc9 hgg; have hc10 : k + 1 <= cap9 := by
      rcases ho9.o.2 with ⟨hv, _⟩ | ⟨_, _, _, hv, _, _, h4, _, _⟩
      ·cases hv
      ·injection hv with _ _ e
       omega
     go_wp2_with fail
     have HT : b.take (k + 1) = b.take k ++ [b[k]] := List.take_succ_eq_append_getElem hlt; go_roundw
     case rel =>
      refine ⟨k + 1, cap9, _, by omega, by go_num, rfl, hc10, hc9, ?_, hZ (fun i hi => if h9 : i < k then HI.o i h9 else fun h8 => ?_), hZ ?_, hZ (by rw [Hg.o]; exact hb9.o)⟩
      ·simp only [qG6]
       rw [List.getElem?_eq_getElem hlt, Option.getD_some, Hr.o, Hpv.o]
      ·obtain rfl : i = k := by omega
       rw [Hr.o, Hpv.o, Hz.o]; refine ⟨hrl, by omega, by omega, qJV HI.o hlt q HLq.o, fun t ht => ?_⟩; have := HA.o t ht ht
       rwa [List.getElem?_eq_getElem (show t < b.length by omega), Option.getD_some] at this
      ·have h1 := ho9.o
       rw [HT, List.map_append, List.map_singleton, Hr.o, Hpv.o]; simpa [List.map_take, zv] using h1
     case measure => simp [intOf]; omega
end Go.Proofs.Ytlmbebbdamgfpaa
