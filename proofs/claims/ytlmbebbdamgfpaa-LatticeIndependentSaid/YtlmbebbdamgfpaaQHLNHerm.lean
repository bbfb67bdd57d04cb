/- worldmintref06.Hermite, for at most six rows. -/
import Derived.Test.YtlmbebbdamgfpaaQHLNNor
import Derived.Test.YtlmbebbdamgfpaaQHLTail
import Derived.Test.YtlmbebbdamgfpaaQHLChk
import Derived.Test.YtlmbebbdamgfpaaQHLDet
import Derived.Test.YtlmbebbdamgfpaaQHLInP
import Derived.Deep.Cut
set_option linter.unusedVariables false
set_option linter.unusedSimpArgs false
set_option maxHeartbeats 8000000
set_option maxRecDepth 100000
namespace Go.Proofs.Ytlmbebbdamgfpaa
open Go.RowKit
theorem qG0 (w0 : World) (u : Value) (B n k : Nat) (l : List Nw) (H : List (List Int)) (h : NOu w0 B u l n H) (hn0 : 0 < n) (hn : n <= 1000) (hm : H.length <= 1000) (hS : ∀ r ∈ H, ∀ x ∈ r, Sz k x) (hk : k <= 6000000) :
 Calls Try.prog 36 #[u] w0 fun e w' => Below w0.heap.size w0 w' /\ qA5 H e w' := by
 have HN := hZ h; have HS := hZ hS; have HL := hZ h.len; obtain ⟨au, cu, rfl, q1, q2⟩ := h.own.form; have HB := hZ (Below.refl w0.heap.size w0); have hll : l.length <= 1000 := by rw [<- h.len]; exact hm
 clear h hS; obtain ⟨N, hN⟩ := eX l.length; have HNl := hZ hN; rw [hN] at HN q1 hll ⊢; clear hN
 go_enter Try.func36, Try.ntmps36
 go_wp2_with fail
 have HY : Hid (YMt w0 w0.heap.size (.slice none 0 0) [] n (H.take 0)) := hZ (YMt.nil w0 _ n)
 go_loopw [5, 4] (fun iv ov wr => ∃ (i : Nat) (ga : Option Addr) (gc : Nat) (lo : List Yw), i <= N /\ iv = .int .i64 i /\ ov = .slice ga i gc /\ Hid (lo.length = i) /\ Hid (YMt wr w0.heap.size (.slice ga i gc) lo n (H.take i)) /\ Hid (∀ r ∈ H.take i, ∀ x ∈ r, qEH x) /\ Hid (Below w0.heap.size w0 wr)) (fun iv _ _ => N - (intOf iv).toNat)
 case atStart => exact ⟨0, none, 0, [], by omega, rfl, rfl, hZ rfl, HY, hZ (fun r h => by simp at h), HB⟩
 case round =>
  clear HY HB; obtain ⟨i, ga, gc, lo, hi, rfl, rfl, HLo, HY, HF, HB⟩ := hrel; obtain ⟨ws, rfl⟩ := eY wr; have HB0s := hZ HB.o.size; by_cases hiN : i < N
  ·skip
   have i1 : (0 : Int) <= (i : Int) := by omega
   have i2 : (i : Int) < (N : Int) := by omega
   have hil : i < l.length := by rw [HNl.o]; exact hiN
   have hiH : i < H.length := by rw [HL.o]; exact hil
   obtain ⟨R, cR, e9, -, -, -, hRl⟩ := HN.o.own.some_ (by rw [HNl.o]; omega); rw [HNl.o] at e9; injection e9 with f1 f2 f3; subst f1 f3; clear f2; have HRw := hZ (HN.o.row i hil hiH); have HGi := hZ (HN.o.get (R := R) (c := cu) (by rw [HNl.o]) i hil); have HRl : Hid (R < w0.heap.size) := hZ hRl; obtain ⟨r, hr⟩ := eX (H[i]); rw [hr] at HRw; have Hr := hZ hr; have HSr : Hid (∀ x ∈ r, Sz k x) := hZ (hr ▸ HS.o _ (List.getElem_mem hiH)); clear hr hRl; obtain ⟨g, hg⟩ := eX (l[i].1); obtain ⟨o, ho⟩ := eX (l[i].2.1); obtain ⟨q, hq⟩ := eX (l[i].2.2); rw [show l[i] = (g, o, q) by rw [<- hg, <- ho, <- hq]] at HRw; rw [hg, ho, hq] at HGi; clear hg ho hq; have HW : Hid (Below ws.heap.size ws ws) := hZ (Below.refl _ _); have hrn : r.length = n := HRw.o.2
   go_wp2_with fail
   go_loopw [7, 6] (fun kv rv wr => ∃ (j : Nat) (ra : Option Addr) (rc : Nat), j <= n /\ kv = .int .i64 j /\ rv = .slice ra j rc /\ Hid (wr.ownsRow ws.heap.size 3 1 (.slice ra j rc) j ((r.take j).map zv)) /\ Hid (∀ x ∈ r.take j, qEH x) /\ Hid (Below ws.heap.size ws wr)) (fun kv _ _ => n - (intOf kv).toNat)
   case atStart => exact ⟨0, none, 0, by omega, rfl, rfl, hZ (World.ownsRow_nil _ _ _ _), hZ (fun x h => by simp at h), HW⟩
   case round =>
    clear HW; obtain ⟨j, ra, rc, hj, rfl, rfl, HO, HFj, HW⟩ := hrel; obtain ⟨w1, rfl⟩ := eY wr; have HBw := hZ (HB.o.trans (HW.o.mono HB.o.size)); have e0 := (HBw.o.cell (p := ⟨R, i, none⟩) HRl.o).trans HGi.o; by_cases hjn : j < n
    ·skip
     have j1 : (0 : Int) <= (j : Int) := by omega
     have j2 : (j : Int) < (n : Int) := by omega
     have hjr : j < r.length := by rw [hrn]; exact hjn
     obtain ⟨s_x, a_x, n_x, c_x, d0x, d1x, h_x⟩ := (HRw.o.1.blw HBw.o).get j hjr; simp only [] at d0x d1x; obtain ⟨x, hx⟩ := eX (r[j]); rw [hx] at h_x; have Hx := hZ hx; have Vx := hZ h_x; have Sx : Hid (Sz k x) := hZ (hx ▸ HSr.o _ (List.getElem_mem hjr)); have HxH : Hid (r ∈ H /\ x ∈ r) := hZ ⟨Hr.o ▸ List.getElem_mem hiH, hx ▸ List.getElem_mem hjr⟩; clear h_x hx
     go_wp2_with fail
     clear d0x d1x e0; refine (qLQ (w := w1) Vx.o Sx.o hk).mono ?_; rintro e w2 ⟨rfl, hB⟩; replace HW := bT HW hB; replace HO := hZ (qDx hB HO.o); clear hB HBw Vx; by_cases hf : qEH x
     ·skip
      rw [qER hf]
      go_wp2_with (at_builtin; refine qAX (W0 := ws) qHd rfl _ _ rfl [.int .i64 x] 3 (.slice ra j rc) j ((r.take j).map zv) rfl rfl rfl (by simp [Value.oneCell']) HO.o HW.o HW.o.size (by omega) (by omega) ?_)
      intro g9 cap9 w9 ho9 hb9 hon9 hc9 hgg; obtain ⟨w3, rfl⟩ := eY w9
      go_wp2_with fail
      go_roundw
      case rel => exact ⟨j + 1, some ⟨g9, 0, none⟩, cap9, by omega, by go_num, rfl, hZ (by rw [qC5 hjr Hx.o.symm, List.map_append, List.map_take]; exact ho9.o), hZ (fun y hy => by rw [qC5 hjr Hx.o.symm] at hy; rcases List.mem_append.1 hy with h9 | h9; exact HFj.o y h9; rw [List.mem_singleton.1 h9]; exact hf), hb9⟩
      case measure => simp [intOf]; omega
     ·skip
      rw [qEQ hf]
      go_wp2_with fail
      have HBf := hZ (HB.o.trans (HW.o.mono HB.o.size)); exact bodyPost_ret (v := .tuple #[.slice none 0 0, .int .i64 4]) (by simp [results, Try.results36, go_sem]) rfl ⟨HBf.o, .inl ⟨rfl, r, HxH.o.1, x, HxH.o.2, hf⟩⟩
    ·skip
     have hjn2 : j = n := by omega
     have HOr : Hid (w1.ownsRow ws.heap.size 3 1 (.slice ra n rc) n (r.map zv)) := hZ (by have h9 := HO.o; rw [hjn2, List.take_of_length_le (by omega)] at h9; exact h9); have HFr : Hid (∀ x ∈ r, qEH x) := hZ (by have h9 := HFj.o; rwa [List.take_of_length_le (by omega)] at h9); have HY1 : Hid ((∀ g, (Value.slice ga i gc).ownBlock = some g -> g < ws.heap.size) /\ ∀ t (ht : t < lo.length) g, (yV n lo[t]).ownBlock = some g -> g < ws.heap.size) := hZ ⟨fun g hg => (HY.o.own.lt g hg).2, fun t ht g hg => ((HY.o.row t ht (by rw [HY.o.len]; exact ht)).1.lt g hg).2⟩; replace HY := hZ (HY.o.blw HW.o); replace HB := HBw; clear HBw; have Hjn2 := hZ hjn2; clear hjn2
     go_wp2_with (at_builtin; refine qAX (W0 := w0) qCO rfl _ _ rfl [.slice ra j rc] 22 (.slice ga i gc) i (lo.map (yV n)) rfl rfl rfl (by simp [Value.oneCell']) (by have h9 := HY.o.own; rw [HLo.o] at h9; exact h9) HB.o HB.o.size (by omega) (by omega) ?_)
     intro g9 cap9 w9 ho9 hb9 hon9 hc9 hgg; obtain ⟨w3, rfl⟩ := eY w9; rw [Hjn2.o] at ho9
     go_wp2_with fail
     go_roundw
     case rel =>
      refine ⟨i + 1, some ⟨g9, 0, none⟩, cap9, lo ++ [(ra, rc)], by omega, by go_num, rfl, hZ (by simp [HLo.o]), hZ ?_, hZ (fun y hy => by rw [List.take_succ_eq_append_getElem hiH, Hr.o] at hy; rcases List.mem_append.1 hy with h9 | h9; exact HF.o y h9; rw [List.mem_singleton.1 h9]; exact HFr.o), hb9⟩; have h9 := YMt.snoc (g := g9) (c := cap9) (x := (ra, rc)) (r := r) HY.o (qHE HOr.o HB0s.o) hrn (fun t ht b hb e => by have h8 := HY1.o.2 t ht b hb; have h7 := HOr.o.lt b e; omega) hon9.o (by have h8 := ho9.o; rw [HLo.o]; exact h8); rw [HLo.o] at h9; rw [List.take_succ_eq_append_getElem hiH, Hr.o]; exact h9
     case measure => simp [intOf]; omega
  ·skip
   have hiN2 : i = N := by omega
   have HYf : Hid (qAA ws (.slice ga i gc) H) := hZ (by have h9 := HY.o.mat; rwa [List.take_of_length_le (by rw [HL.o, HNl.o]; omega)] at h9); have HFf : Hid (∀ r ∈ H, ∀ x ∈ r, qEH x) := hZ (by have h9 := HF.o; rwa [List.take_of_length_le (by rw [HL.o, HNl.o]; omega)] at h9); clear hiN2
   go_wp2_with fail
   exact bodyPost_ret (v := .tuple #[.slice ga i gc, .int .i64 0]) (by simp [results, Try.results36, go_sem]) rfl ⟨HB.o, .inr ⟨_, rfl, HYf.o, HFf.o⟩⟩
open Go.RowKit
theorem qDy (v : Value) (m : List (List Int)) (w : World) (h : qAA w v m) :
 Calls Try.prog 34 #[v] w fun e w' => e = .returned (.int .i64 (qAt m)) /\ Below w.heap.size w w' := by
 have H := hZ h; obtain ⟨av, cv, rfl, q1, q2⟩ := h.form; clear h; by_cases hr : 64 < m.length
 ·have r1 : (64 : Int) < (m.length : Int) := by omega
  have HZ := hZ (qEB hr)
  go_enter Try.func34, Try.ntmps34
  go_wp2_with fail
  go_ret; exact ⟨by rw [HZ.o]; rfl, Below.refl _ _⟩
 ·have r1 : ¬ (64 : Int) < (m.length : Int) := by omega
  go_enter Try.func34, Try.ntmps34
  go_wp2_with fail
  go_loopw [3] (fun i wr => ∃ j : Nat, j <= m.length /\ i = .int .i64 j /\ Hid (∀ r ∈ m.take j, r.length <= 128) /\ Hid (Below w.heap.size w wr)) (fun i _ => m.length - (intOf i).toNat)
  case atStart => exact ⟨0, by omega, rfl, hZ (by simp), hZ (Below.refl _ _)⟩
  case round =>
   obtain ⟨j, hj, rfl, HT, HB⟩ := hrel; by_cases hlt : j < m.length
   ·obtain ⟨b, cap, a, c, hv, hb, n1, HI, g1, g2⟩ := (H.o.below HB.o).at_ j hlt
    injection hv with f1 f2 f3; subst f1; clear f2 f3; have i1 : (0 : Int) <= (j : Int) := by omega
    have i2 : (j : Int) < (m.length : Int) := by omega
    have HI := hZ HI; have HM : Hid (m[j] ∈ m) := hZ (List.getElem_mem hlt); have HS := hZ (fun h2 => qAR (P := fun r => r.length <= 128) hlt HT.o h2); clear HT; generalize m[j] = r at *; by_cases hx : 128 < r.length
    ·have s1 : (128 : Int) < (r.length : Int) := by omega
     have HZ := hZ (qEC (by omega) HM.o hx)
     go_wp2_with fail
     go_ret; exact ⟨by rw [HZ.o]; rfl, HB.o⟩
    ·have s1 : ¬ (128 : Int) < (r.length : Int) := by omega
     go_wp2_with fail
     go_roundw
     case rel => exact ⟨j + 1, by omega, by go_num, hZ (HS.o (by omega)), HB⟩
     case measure => simp [intOf]; omega
   ·have hC : ∀ r ∈ m, r.length <= 128 := by have := HT.o; rwa [List.take_of_length_le (by omega)] at this
    have HC := hZ hC; clear hC HT
    go_wp2_with fail
    go_loopw [4] (fun i wr => ∃ j : Nat, j <= m.length /\ i = .int .i64 j /\ Hid (∀ r ∈ m.take j, r.length = (m[0]?.getD []).length) /\ Hid (Below w.heap.size w wr)) (fun i _ => m.length - (intOf i).toNat)
    case atStart => exact ⟨0, by omega, rfl, hZ (by simp), HB⟩
    case round =>
     clear HB hj hlt; obtain ⟨j, hj, rfl, HT, HB⟩ := hrel; by_cases hlt : j < m.length
     ·obtain ⟨b, cap, a, c, hv, hb, n1, HI, g1, g2⟩ := (H.o.below HB.o).at_ j hlt
      have h0 : 0 < m.length := by omega
      obtain ⟨b0, cap0, a0, c0, hv0, hb0, n0, HI0, g10, g20⟩ := (H.o.below HB.o).at_ 0 h0; injection hv with f1 f2 f3; subst f1; clear f2 f3; injection hv0 with f1 f2 f3; injection f1 with f1; injection f1 with f1; subst f1; clear f2 f3; have i1 : (0 : Int) <= (j : Int) := by omega
      have i2 : (j : Int) < (m.length : Int) := by omega
      have i3 : (0 : Int) < (m.length : Int) := by omega
      clear HI HI0; have HM : Hid (m[j] ∈ m) := hZ (List.getElem_mem hlt); have HS := hZ (fun h2 => qAR (P := fun r => r.length = (m[0]?.getD []).length) hlt HT.o h2); have HE : Hid ((m[0]?.getD []).length = m[0].length) := hZ (by simp [List.getElem?_eq_getElem h0]); have HZ := hZ (fun h3 => qEZ (by omega) HC.o h0 HM.o h3); clear HT; generalize m[j] = r at *; generalize m[0] = r0 at *; by_cases hx : r.length = r0.length
      ·have s1 : ((r.length : Int) == (r0.length : Int)) = true := by simp [hx]
       have s2 : ((r.length : Int) != (r0.length : Int)) = false := by simp [hx]
       have s3 : (r.length == r0.length) = true := by simp [hx]
       have s4 : (r.length != r0.length) = false := by simp [hx]
       have HX := hZ hx; clear hx
       go_wp2_with fail
       obtain ⟨wd, hwd⟩ := eX wr.drew; have hB9 : Below wr.heap.size wr wd := by rw [<- hwd]; exact (Below.refl _ _).drew
       replace HB := hZ (HB.o.trans (hB9.mono HB.o.size)); replace n1 := (hB9.cell (p := ⟨b, j, none⟩) hb).trans n1; replace n0 := (hB9.cell (p := ⟨b, 0, none⟩) hb).trans n0; replace hb := Nat.lt_of_lt_of_le hb hB9.size; clear hB9; refine qAx [] (fun w' => qAc (fun b => False) wd w') (by kernel_rfl) (by rw [hwd]; exact qAc.refl _ _) (fun hHeld => ?_); rw [hwd] at hHeld ⊢; clear hwd; refine pU 0 28 ?_; refine pU 1 29 ?_; refine pU 2 30 ?_; refine qD9 3 31 (v := ?_) rfl rfl (by kernel_rfl) (by kernel_rfl) (by kernel_rfl) (by kernel_rfl) (by kernel_rfl) (fun _ _ _ h => h) (by rfl) ?_ (by assumption) ?_; rotate_left
       ·(intro w; intro hSw; have x0 := (hSw.cell (p := ⟨b, j, none⟩) (fun h => h) hb).trans n1; go_simp; first | done | with_reducible rfl)
       simp only [sX1, sX2, sX3]; refine pU 4 32 ?_; refine pU 5 33 ?_; refine pU 6 34 ?_; refine qD9 7 35 (v := ?_) rfl rfl (by kernel_rfl) (by kernel_rfl) (by kernel_rfl) (by kernel_rfl) (by kernel_rfl) (fun _ _ _ h => h) (by rfl) ?_ (by assumption) ?_; rotate_left
       ·(intro w; intro hSw; have x0 := (hSw.cell (p := ⟨b, 0, none⟩) (fun h => h) hb).trans n0; go_simp; first | done | with_reducible rfl)
       simp only [sX1, sX2, sX3]; refine pU 8 36 ?_; refine pU 9 37 ?_; refine dU ?_; clear hHeld
       go_wp2_with fail
       go_roundw
       case rel => exact ⟨j + 1, by omega, by go_num, hZ (HS.o (by rw [HE.o]; exact HX.o)), HB⟩
       case measure => simp [intOf]; omega
      ·have s1 : ((r.length : Int) == (r0.length : Int)) = false := by simp; omega
       have s2 : ((r.length : Int) != (r0.length : Int)) = true := by simp; omega
       have s3 : (r.length == r0.length) = false := by simp; omega
       have s4 : (r.length != r0.length) = true := by simp; omega
       have HX := hZ (HZ.o hx); clear hx
       go_wp2_with fail
       obtain ⟨wd, hwd⟩ := eX wr.drew; have hB9 : Below wr.heap.size wr wd := by rw [<- hwd]; exact (Below.refl _ _).drew
       replace HB := hZ (HB.o.trans (hB9.mono HB.o.size)); replace n1 := (hB9.cell (p := ⟨b, j, none⟩) hb).trans n1; replace n0 := (hB9.cell (p := ⟨b, 0, none⟩) hb).trans n0; replace hb := Nat.lt_of_lt_of_le hb hB9.size; clear hB9; refine qAx [] (fun w' => qAc (fun b => False) wd w') (by kernel_rfl) (by rw [hwd]; exact qAc.refl _ _) (fun hHeld => ?_); rw [hwd] at hHeld ⊢; clear hwd; refine pU 0 28 ?_; refine pU 1 29 ?_; refine pU 2 30 ?_; refine qD9 3 31 (v := ?_) rfl rfl (by kernel_rfl) (by kernel_rfl) (by kernel_rfl) (by kernel_rfl) (by kernel_rfl) (fun _ _ _ h => h) (by rfl) ?_ (by assumption) ?_; rotate_left
       ·(intro w; intro hSw; have x0 := (hSw.cell (p := ⟨b, j, none⟩) (fun h => h) hb).trans n1; go_simp; first | done | with_reducible rfl)
       simp only [sX1, sX2, sX3]; refine pU 4 32 ?_; refine pU 5 33 ?_; refine pU 6 34 ?_; refine qD9 7 35 (v := ?_) rfl rfl (by kernel_rfl) (by kernel_rfl) (by kernel_rfl) (by kernel_rfl) (by kernel_rfl) (fun _ _ _ h => h) (by rfl) ?_ (by assumption) ?_; rotate_left
       ·(intro w; intro hSw; have x0 := (hSw.cell (p := ⟨b, 0, none⟩) (fun h => h) hb).trans n0; go_simp; first | done | with_reducible rfl)
       simp only [sX1, sX2, sX3]; refine pU 8 36 ?_; refine pU 9 37 ?_; refine dU ?_; clear hHeld
       go_wp2_with fail
       go_ret; exact ⟨by rw [HX.o]; rfl, HB.o⟩
     ·have hE : ∀ r ∈ m, r.length = (m[0]?.getD []).length := by have := HT.o; rwa [List.take_of_length_le (by omega)] at this
      have HE := hZ hE; clear hE HT
      go_wp2_with fail
      go_loopw [5] (fun i wr => ∃ j : Nat, j <= m.length /\ i = .int .i64 j /\ Hid (∀ r ∈ m.take j, ∀ x ∈ r, -1099511627776 <= x /\ x <= 1099511627776) /\ Hid (Below w.heap.size w wr)) (fun i _ => m.length - (intOf i).toNat)
      case atStart => exact ⟨0, by omega, rfl, hZ (by simp), HB⟩
      case round =>
       clear HB hj hlt; obtain ⟨j, hj, rfl, HT, HB⟩ := hrel; by_cases hlt : j < m.length
       ·obtain ⟨b, cap, a, c, hv, hb, n1, HI, g1, g2⟩ := (H.o.below HB.o).at_ j hlt
        injection hv with f1 f2 f3; subst f1; clear f2 f3; have i1 : (0 : Int) <= (j : Int) := by omega
        have i2 : (j : Int) < (m.length : Int) := by omega
        have h0 : 0 < m.length := by omega
        have HI := hZ HI; have HM : Hid (m[j] ∈ m) := hZ (List.getElem_mem hlt); have HS := hZ (fun h2 => qAR (P := fun r => ∀ x ∈ r, -1099511627776 <= x /\ x <= 1099511627776) hlt HT.o h2); have HZ : Hid (∀ x ∈ m[j], (x < -1099511627776 \/ 1099511627776 < x) -> qAt m = 5) := hZ (fun x hx h4 => qE0 (by omega) HC.o h0 (fun r hr => by rw [HE.o r hr]; simp [List.getElem?_eq_getElem h0]) HM.o hx h4); clear HT; obtain ⟨r, hr⟩ := eX (m[j]); have Hr := hZ hr; have hr128 : r.length <= 128 := HC.o r (hr ▸ List.getElem_mem hlt); rw [hr] at HS HZ; clear hr n1 HI hb g1 g2 HM
        go_wp2_with fail
        go_loopw [6] (fun i w2 => ∃ k : Nat, k <= r.length /\ i = .int .i64 k /\ Hid (∀ x ∈ r.take k, -1099511627776 <= x /\ x <= 1099511627776) /\ Hid (Below wr.heap.size wr w2)) (fun i _ => r.length - (intOf i).toNat)
        case atStart => exact ⟨0, by omega, rfl, hZ (by simp), hZ (Below.refl _ _)⟩
        case round =>
         obtain ⟨k, hk, rfl, HT, HB2⟩ := hrel; obtain ⟨b', cap', a, c, hv, hb, n1, HI, g1, g2⟩ := (H.o.below (HB.o.trans (HB2.o.mono HB.o.size))).at_ j hlt; injection hv with f1 f2 f3; injection f1 with f1; injection f1 with f1; subst f1; clear f2 f3; rw [Hr.o] at n1 HI; have HI := hZ HI; by_cases hk2 : k < r.length
         ·obtain ⟨d, e1, hv1, hb1, m1⟩ := qAo.at_ HI.o k hk2
          injection hv1 with f1 f2 f3; subst f1; clear f2 f3; have k1 : (0 : Int) <= (k : Int) := by omega
          have k2 : (k : Int) < (r.length : Int) := by omega
          have HT2 := hZ (fun h2 => qAR (P := fun x : Int => -1099511627776 <= x /\ x <= 1099511627776) hk2 HT.o h2); have HZ2 := hZ (HZ.o r[k] (List.getElem_mem hk2)); have HB3 := hZ (HB.o.trans (HB2.o.mono HB.o.size)); generalize r[k] = x at *; by_cases hx : x < -1099511627776
          ·have HX := hZ (HZ2.o (Or.inl hx))
           go_wp2_with fail
           go_ret; exact ⟨by rw [HX.o]; rfl, HB3.o⟩
          ·by_cases hx2 : 1099511627776 < x
           ·have HX := hZ (HZ2.o (Or.inr hx2))
            go_wp2_with fail
            go_ret; exact ⟨by rw [HX.o]; rfl, HB3.o⟩
           ·go_wp2_with fail
            go_roundw
            case rel => exact ⟨k + 1, by omega, by go_num, hZ (HT2.o ⟨by omega, by omega⟩), HB2⟩
            case measure => simp [intOf]; omega
         ·have HB3 := hZ (HB.o.trans (HB2.o.mono HB.o.size))
          have HS2 := hZ (HS.o (by have := HT.o; rwa [List.take_of_length_le (by omega)] at this))
          go_wp2_with fail
          go_roundw
          case rel => exact ⟨j + 1, by omega, by go_num, HS2, HB3⟩
          case measure => simp [intOf]; omega
       ·have HX := hZ (qBt.2 ⟨by omega, HC.o, HE.o, by have := HT.o; rwa [List.take_of_length_le (by omega)] at this⟩)
        go_wp2_with fail
        go_ret; exact ⟨by rw [HX.o]; rfl, HB.o⟩
open Go.RowKit
def NBl (w : World) (B : Nat) (v : Value) (i n : Nat) (M : List (List Int)) (xs : List Value) : Prop := qBH isS w B 51 1 v i xs /\ (0 < n -> ∃ l : List Nw, l.length = i /\ xs = l.map (nrV n) /\ NOu w B v l n M /\ (∀ x ∈ l, B <= x.1) /\ ∀ a b (ha : a < l.length) (hb : b < l.length), a ≠ b -> l[a].1 ≠ l[b].1)
theorem NBl.nil (w : World) (B n : Nat) : NBl w B (.slice none 0 0) 0 n [] [] := ⟨qBH.nil _ _ _ _, fun _ => ⟨[], rfl, rfl, NOu.nil _ _ _, fun x h => by simp at h, fun a b ha => by simp at ha⟩⟩
theorem NBl.blw {w w' : World} {B i n : Nat} {v : Value} {M : List (List Int)} {xs : List Value} (h : NBl w B v i n M xs) (hb : Below w.heap.size w w') : NBl w' B v i n M xs :=
 ⟨h.1.blw hb, fun hn => by obtain ⟨l, h1, h2, h3, h4⟩ := h.2 hn; exact ⟨l, h1, h2, h3.blw hb, h4⟩⟩
instance {w w' : World} {B i n : Nat} {v : Value} {M : List (List Int)} {xs : List Value} : Mv w w' (NBl w B v i n M xs) (NBl w' B v i n M xs) := ⟨fun hb h => NBl.blw h hb⟩
theorem NBl.snoc {w w1 w2 : World} {B i n : Nat} {v v2 u : Value} {M : List (List Int)} {r : List Int} {xs xs' : List Value} (h : NBl w B v i n M xs) (hb : Below w.heap.size w w1) (hu : qBH qGI w1 w.heap.size 61 2 u n xs') (hz : NLs w1 xs' r) (hl : r.length = n)
 (hBw : B <= w.heap.size) (hown : qBH isS w2 B 51 1 v2 (i + 1) (xs ++ [u])) (ho : qAc (fun b => v.ownBlock = some b) w1 w2) : NBl w2 B v2 (i + 1) n (M ++ [r]) (xs ++ [u]) := by
 refine ⟨hown, fun hn => ?_⟩; obtain ⟨l, h1, rfl, h2, h3, h4⟩ := h.2 hn; obtain ⟨g, c, rfl, q1, q2, q3, q4⟩ := hu.some_ hn; obtain ⟨g2, c2, rfl, p1, p2, p3, p4⟩ := hown.some_ (by omega); subst h1; have hr := hu.nro hz; have hlt : ∀ a (ha : a < l.length), l[a].1 < w.heap.size := fun a ha => (h2.row a ha (by rw [h2.len]; exact ha)).1.lt; refine ⟨l ++ [(g, 0, c)], by simp, by rw [List.map_append]; rfl, NOu.snoc (x := (g, 0, c)) (h2.blw hb) hr hl hn q1 q2 ho hown, fun x hx => ?_, fun a b ha hb' hab => ?_⟩
 ·rcases List.mem_append.1 hx with h9 | h9
  ·exact h3 x h9
  ·rw [List.mem_singleton.1 h9]; exact Nat.le_trans hBw q3
 ·simp only [List.length_append, List.length_singleton] at ha hb'
  rw [List.getElem_append, List.getElem_append]
  split <;> split
  ·exact h4 a b _ _ hab
  ·rename_i ha' _
   have := hlt a ha'; simp only [List.getElem_singleton]; omega
  ·rename_i hb9
   have := hlt b hb9; simp only [List.getElem_singleton]; omega
  ·omega
theorem NBl.nmt {w : World} {B R c m n : Nat} {M : List (List Int)} {xs : List Value} (h : NBl w B (.slice (some ⟨R, 0, none⟩) m c) m n M xs) (hn : 0 < n) : ∃ l : List Nw, NMt w B R c m l n M /\ (∀ x ∈ l, B <= x.1) := by
 obtain ⟨l, h1, rfl, h2, h3, h4⟩ := h.2 hn; have hlen := h2.len; exact ⟨l, ⟨h.1, h1, by omega, h2.row, h4, fun i hi => qBz h2.own rfl (h2.row i hi (by omega)).1 (by have := (h2.row i hi (by omega)).2; omega), h2.cap⟩, h3⟩
theorem qFj {a : Option Addr} {n c : Nat} : ∀ u ∈ ([.slice a n c] : List Value), isS u := by
 intro u hu; simp at hu; subst hu; exact ⟨_, _, _, rfl⟩
theorem qDV : ∀ u ∈ (Value.slice none 0 0).cells, isS u := by
 intro u hu; simp [Value.cells] at hu; subst hu; exact ⟨_, _, _, rfl⟩
theorem qFs {m : List (List Int)} (h : qBK m) {i : Nat} (hi : i < m.length) : ∀ x ∈ m[i], -9223372036854775808 <= x /\ x <= 9223372036854775807 := fun x hx => by
 have := h.small _ (List.getElem_mem hi) x hx; omega
theorem qBK.sz41 {m : List (List Int)} (h : qBK m) : ∀ r ∈ m, ∀ x ∈ r, Sz 41 x := fun r hr x hx => by
 have := h.small r hr x hx; have e : (2 : Nat) ^ 41 = 2199023255552 := by decide
 unfold Sz; rw [e]; omega
theorem qDR (w0 : World) (a : Option Addr) (k c columns : Nat) (h : columns = 0 \/ k = 0) (hk : k <= 1000) (hc : columns <= 1000) :
 Calls Try.prog 37 #[.slice a k c, .int .i64 columns] w0 fun e w' => e = .returned (.slice none 0 0) /\ Below w0.heap.size w0 w' := by
 have HB := hZ (Below.refl w0.heap.size w0); have HE := hZ (qCz w0 a k c columns h hk hc)
 go_enter Try.func37, Try.ntmps37
 go_wp2_with fail
 refine HE.o.mono ?_; rintro e w1 ⟨rfl, hB⟩; replace HB := bT HB hB; clear hB HE
 go_wp2_with fail
 go_loopw [8, 7] (fun iv ov wr => iv = .int .i64 0 /\ ov = .slice none 0 0 /\ Hid (Below w0.heap.size w0 wr)) (fun _ _ _ => 0)
 case atStart => exact ⟨rfl, rfl, HB⟩
 case round =>
  obtain ⟨rfl, rfl, HB⟩ := hrel
  go_wp2_with fail
  go_ret; exact ⟨rfl, HB.o⟩
theorem qEj (w0 : World) : Calls Try.prog 36 #[.slice none 0 0] w0 fun e w' => Below w0.heap.size w0 w' /\ qA5 [] e w' :=
 qG0 w0 _ 0 1 1 [] [] (NOu.nil _ _ _) (by omega) (by omega) (by simp) (fun r h => by simp at h) (by omega)
theorem qF7 (w0 : World) (v : Value) (m : List (List Int)) (h : qAA w0 v m) (hm6 : m.length <= 6) : Calls Try.prog 15 #[v] w0 (qD5 w0 m) := by
 have H := hZ h; have HB := hZ (Below.refl w0.heap.size w0); obtain ⟨av, cv, rfl, q1, q2⟩ := h.form; obtain ⟨i0, hi, hz0, hz1, hz2⟩ := info_parts qHI; have Hi := hZ hi; have Hz0 := hZ hz0; have Hz1 := hZ hz1; have Hz2 := hZ hz2; have Hm6 := hZ hm6; clear h hi hz0 hz1 hz2
 go_enter Try.func15, Try.ntmps15
 go_wp2_with fail
 refine (qDy _ m w0 H.o).mono ?_; rintro e w1 ⟨rfl, hB⟩; replace HB := bT HB hB; clear hB; by_cases hz : qAt m = 0
 ·skip
  have Hc := hZ (qBt.1 hz); have Hz := hZ hz; rw [hz]; clear hz; obtain ⟨n, hn⟩ := eX (qBx m); have Hn := hZ hn; have Hlen : Hid (∀ r ∈ m, r.length = n) := hZ (hn ▸ Hc.o.len); have hn128 : n <= 128 := hn ▸ Hc.o.cols_; clear hn; by_cases hm0 : m.length = 0
  ·skip
   have z1 : ((m.length : Int) == 0) = true := by rw [beq_iff_eq]; omega
   have Hm0 := hZ hm0; clear hm0
   go_wp2_with fail
   exact bodyPost_ret (v := .tuple #[.slice none 0 0, .int .i64 0]) (by simp [results, Try.results15, go_sem]) rfl ⟨HB.o, .inr ⟨Hz.o, [], qCg (fun r hr => by have := List.length_pos_of_mem hr; have := Hm0.o; omega) 0, fun r h => by simp at h, by simp, .inr ⟨_, rfl, qAh.nil _ 0 (by omega), fun r h => by simp at h⟩⟩⟩
  ·skip
   have z1 : ((m.length : Int) == 0) = false := by rw [beq_eq_false_iff_ne]; omega
   have z0 : 0 < m.length := by omega
   go_wp2_with fail
   go_loopw [6, 5] (fun iv lv wr => ∃ (i : Nat) (ga : Option Addr) (gc : Nat) (xs : List Value), i <= m.length /\ iv = .int .i64 i /\ lv = .slice ga i gc /\ Hid (NBl wr w0.heap.size (.slice ga i gc) i n (m.take i) xs) /\ Hid (Below w0.heap.size w0 wr)) (fun iv _ _ => m.length - (intOf iv).toNat)
   case atStart => exact ⟨0, none, 0, [], by omega, rfl, rfl, hZ (NBl.nil _ _ _), HB⟩
   case round =>
    clear HB; obtain ⟨i, ga, gc, xs, hi, rfl, rfl, HN, HB⟩ := hrel; obtain ⟨w1, rfl⟩ := eY wr; by_cases him : i < m.length
    ·skip
     have i1 : (0 : Int) <= (i : Int) := by omega
     have i2 : (i : Int) < (m.length : Int) := by omega
     obtain ⟨b, cap, a, c, hv, hb, n0, HR, g1, g2⟩ := H.o.at_ i him; injection hv with f1 f2 f3; subst f1; clear f2 f3; have HLi : Hid (m[i].length = n) := hZ (Hlen.o _ (List.getElem_mem him)); have n1 := (HB.o.cell (p := ⟨b, i, none⟩) hb).trans n0; clear n0 hb g1 g2; have HRow := hZ (qMr w1 _ m[i] (HR.below HB.o) (qFs Hc.o him) (by rw [HLi.o]; omega)); clear HR
     go_wp2_with fail
     clear n1; refine HRow.o.mono ?_; rintro e w2 ⟨u, xs', rfl, hu, hz, hB⟩; clear HRow; obtain ⟨au, cu, rfl, -, -⟩ := hu.form; have HBs := hZ HB.o.size; have HU : Hid (qBH qGI w2 w1.heap.size 61 2 (.slice au n cu) n xs') := hZ (by have h9 := hu; rw [HLi.o] at h9; exact h9); have HZ := hZ hz; have HBr := hZ hB; replace HB := bT HB hB; clear hu hz hB; rw [HLi.o]; have HS2 := hZ HB.o.size
     go_wp2_with (at_builtin; refine qA2 rfl _ _ 50 rfl w0.heap.size 51 i0 _ 1 24 Try.underlying50 Hi.o Hz0.o Hz1.o Hz2.o rfl (by decide) (Q := isS) qDV (.slice ga i gc) i xs rfl (((HN.o.blw HBr.o).blw ((Below.refl _ _).alloc (Nat.le_refl _) _)).1) ⟨w2.heap.size, 0, none⟩ 1 1 [.slice au n cu] rfl rfl (qDb (One.new _ _ _)) (by simp [Value.oneCell']) qFj (by decide) (by unfold maxLen; omega) (by omega) (by simp; have := HS2.o; omega) ?_)
     intro v5 w5 hown hon; obtain ⟨wc, hwc⟩ := eX (w2.alloc (.cells #[.slice au n cu] 51)); have hBc : Below w2.heap.size w2 wc := by rw [<- hwc]; exact (Below.refl _ _).alloc (Nat.le_refl _) _
     have HNc := hZ ((HN.o.blw HBr.o).blw hBc); have HUc := hZ (HU.o.blw hBc); have HZc := hZ (HZ.o.blw hBc); have HBc := hZ (HB.o.trans (hBc.mono HB.o.size)); have HBrc := hZ (HBr.o.trans (hBc.mono HBr.o.size)); clear hBc; rw [hwc] at hon; obtain ⟨a5, c5, rfl, -, -⟩ := hown.form; have HNn := hZ (HN.o.snoc HBrc.o HUc.o HZc.o HLi.o HBs.o hown hon); have HBn := hZ (qAj HBc.o hon (fun b e => (HN.o.1.lt b e).1) HBc.o.size); clear hwc HNc HUc HZc HBc HBrc hown hon HU HZ HBr
     go_wp2_with fail
     go_roundw
     case rel => exact ⟨i + 1, a5, c5, xs ++ [.slice au n cu], by omega, by go_num, rfl, hZ (by rw [List.take_succ_eq_append_getElem him]; exact HNn.o), HBn⟩
     case measure => simp [intOf]; omega
    ·skip
     have hie : i = m.length := by omega
     have HNf : Hid (NBl w1 w0.heap.size (.slice ga m.length gc) m.length n m xs) := hZ (by have h9 := HN.o; rw [hie, List.take_of_length_le (Nat.le_refl _)] at h9; exact h9)
     skip
     clear HN; have Hie := hZ hie; clear hie; clear z1; obtain ⟨b0, cap0, a0, c0, hv0, hb0, n0, HR0, -, -⟩ := H.o.at_ 0 z0; injection hv0 with f1 f2 f3; subst f1; clear f2 f3 HR0; have Hr0 : Hid ((m[0]'z0).length = n) := hZ (Hlen.o _ (List.getElem_mem _)); rw [Hr0.o] at n0; have d0 := (HB.o.cell (p := ⟨b0, 0, none⟩) hb0).trans n0; clear n0 hb0; have i3 : ¬ (i : Int) < (m.length : Int) := by omega
     go_wp2_with fail
     have hi9 := Hie.o; clear i3 d0; rw [hi9]; clear hi9 him; rcases Nat.eq_zero_or_pos n with hn0 | hn0
     ·skip
      have HP := hZ (qDR w1 ga m.length gc n (.inl hn0) (by omega) (by omega)); refine HP.o.mono ?_; rintro e w2 ⟨rfl, hB⟩; replace HB := bT HB hB; have Hn0 := hZ hn0; clear hB HP hn0
      go_wp2_with fail
      refine (qEj w2).mono ?_; rintro e w3 ⟨hB, ⟨rfl, k5⟩ | ⟨u, rfl, k5, k6⟩⟩
      ·skip
       replace HB := bT HB hB; have K5 := hZ k5; clear hB k5
       go_wp2_with fail
       exact bodyPost_ret (v := .tuple #[.slice none 0 0, .int .i64 4]) (by simp [results, Try.results15, go_sem]) rfl ⟨HB.o, .inr ⟨Hz.o, [], qCg (fun r hr => by rw [Hlen.o r hr]; exact Hn0.o) 0, fun r h => by simp at h, by simp, .inl ⟨rfl, K5.o⟩⟩⟩
      ·skip
       replace HB := bT HB hB; have K5 := hZ k5; have K6 := hZ k6; clear hB k5 k6
       go_wp2_with fail
       exact bodyPost_ret (v := .tuple #[u, .int .i64 0]) (by simp [results, Try.results15, go_sem]) rfl ⟨HB.o, .inr ⟨Hz.o, [], qCg (fun r hr => by rw [Hlen.o r hr]; exact Hn0.o) 0, fun r h => by simp at h, by simp, .inr ⟨u, rfl, K5.o, K6.o⟩⟩⟩
     ·skip
      obtain ⟨R, cR, e9, -, -, hRB, -⟩ := HNf.o.1.some_ z0; injection e9 with e1 e2 e3; subst e1 e3; clear e2; obtain ⟨l, hN, hl⟩ := HNf.o.nmt hn0; have HP := hZ (qEl w1 w0.heap.size R gc m.length n 41 l m hN HB.o.size z0 (by omega) hn0 (by omega) Hc.o.sz41 (by omega) (Nat.le_trans (Nat.mul_le_mul_left 41 (Nat.pow_le_pow_right (by omega) (show m.length - 1 <= 5 by omega))) (by decide)) hl); clear hN hl HNf hRB; refine HP.o.mono ?_; rintro e w2 ⟨u, B, l, Hm, rfl, hO, k1, k2, k3, k4, hB⟩; have HO := hZ (qG0 w2 u B n 2000000 l Hm hO hn0 (by omega) (by omega) k4 (by omega)); replace HB := hZ (HB.o.trans hB); have K1 := hZ k1; have K2 := hZ k2; have K3 := hZ k3; clear hB HP k1 k2 k3 k4 hO
      go_wp2_with fail
      refine HO.o.mono ?_; rintro e w3 ⟨hB, ⟨rfl, k5⟩ | ⟨u, rfl, k5, k6⟩⟩
      ·skip
       replace HB := bT HB hB; have K5 := hZ k5; clear hB k5
       go_wp2_with fail
       exact bodyPost_ret (v := .tuple #[.slice none 0 0, .int .i64 4]) (by simp [results, Try.results15, go_sem]) rfl ⟨HB.o, .inr ⟨Hz.o, Hm, K1.o, fun r hr => by rw [K3.o r hr, Hn.o], K2.o, .inl ⟨rfl, K5.o⟩⟩⟩
      ·skip
       replace HB := bT HB hB; have K5 := hZ k5; have K6 := hZ k6; clear hB k5 k6
       go_wp2_with fail
       exact bodyPost_ret (v := .tuple #[u, .int .i64 0]) (by simp [results, Try.results15, go_sem]) rfl ⟨HB.o, .inr ⟨Hz.o, Hm, K1.o, fun r hr => by rw [K3.o r hr, Hn.o], K2.o, .inr ⟨u, rfl, K5.o, K6.o⟩⟩⟩
 ·skip
  have s1 : (qAt m != 0) = true := by simpa using hz
  have s2 : (qAt m == 0) = false := by simpa using hz
  have Hz := hZ hz; clear hz; obtain ⟨z, hz⟩ := eX (qAt m); have Hzz := hZ hz; rw [hz] at s1 s2 ⊢; clear hz
  go_wp2_with fail
  exact bodyPost_ret (v := .tuple #[.slice none 0 0, .int .i64 z]) (by simp [results, Try.results15, go_sem]) rfl ⟨HB.o, .inl ⟨Hz.o, by rw [Hzz.o]⟩⟩
end Go.Proofs.Ytlmbebbdamgfpaa
