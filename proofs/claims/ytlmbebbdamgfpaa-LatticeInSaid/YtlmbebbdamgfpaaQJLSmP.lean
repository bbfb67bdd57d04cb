/- Small matrices: their normal forms and kernels fit; what the laws want of them. -/
import Derived.Test.YtlmbebbdamgfpaaQJLNNor
import Derived.Test.YtlmbebbdamgfpaaQJR5Minus
import Derived.Test.YtlmbebbdamgfpaaQJLIsN
import Derived.Test.YtlmbebbdamgfpaaQJLHnf
import Derived.Deep.Cut
import Derived.Test.YtlmbebbdamgfpaaQJLawLMany
import Derived.Test.YtlmbebbdamgfpaaQJRegFree
import Derived.Test.YtlmbebbdamgfpaaQJLYMat
set_option linter.unusedVariables false
set_option linter.unusedSimpArgs false
set_option maxHeartbeats 8000000
set_option maxRecDepth 100000
namespace Go.Proofs.Ytlmbebbdamgfpaa
open Go.RowKit
theorem qIP (w0 : World) (u : Value) (B n k : Nat) (l : List Nw) (H : List (List Int)) (h : NOu w0 B u l n H) (hn0 : 0 < n) (hn : n <= 1000) (hm : H.length <= 1000) (hS : ∀ r ∈ H, ∀ x ∈ r, Sz k x) (hk : k <= 6000000) :
 Calls Try.prog 36 #[u] w0 fun e w' => Below w0.heap.size w0 w' /\ qBl H e w' := by
 have HN := hZ h; have HS := hZ hS; have HL := hZ h.len; obtain ⟨au, cu, rfl, q1, q2⟩ := h.own.form; have HB := hZ (Below.refl w0.heap.size w0); have hll : l.length <= 1000 := by rw [<- h.len]; exact hm
 clear h hS; obtain ⟨N, hN⟩ := eX l.length; have HNl := hZ hN; rw [hN] at HN q1 hll ⊢; clear hN
 go_enter Try.func36, Try.ntmps36
 go_wp2_with fail
 have HY : Hid (YMt w0 w0.heap.size (.slice none 0 0) [] n (H.take 0)) := hZ (YMt.nil w0 _ n)
 go_loopw [5, 4] (fun iv ov wr => ∃ (i : Nat) (ga : Option Addr) (gc : Nat) (lo : List Yw), i <= N /\ iv = .int .i64 i /\ ov = .slice ga i gc /\ Hid (lo.length = i) /\ Hid (YMt wr w0.heap.size (.slice ga i gc) lo n (H.take i)) /\ Hid (∀ r ∈ H.take i, ∀ x ∈ r, qEm x) /\ Hid (Below w0.heap.size w0 wr)) (fun iv _ _ => N - (intOf iv).toNat)
 case atStart => exact ⟨0, none, 0, [], by omega, rfl, rfl, hZ rfl, HY, hZ (fun r h => by simp at h), HB⟩
 case round =>
  clear HY HB; obtain ⟨i, ga, gc, lo, hi, rfl, rfl, HLo, HY, HF, HB⟩ := hrel; obtain ⟨ws, rfl⟩ := eY wr; have HB0s := hZ HB.o.size; by_cases hiN : i < N
  ·skip
   have i1 : (0 : Int) <= (i : Int) := by omega
   have i2 : (i : Int) < (N : Int) := by omega
   have hil : i < l.length := by rw [HNl.o]; exact hiN
   have hiH : i < H.length := by rw [HL.o]; exact hil
   obtain ⟨R, cR, e9, -, -, -, hRl⟩ := HN.o.own.some_ (by rw [HNl.o]; omega); rw [HNl.o] at e9; injection e9 with f1 f2 f3; subst f1 f3; clear f2; have HRw := hZ (HN.o.row i hil hiH); have HGi := hZ (HN.o.get (R := R) (c := cu) (by rw [HNl.o]) i hil); have HRl : Hid (R < w0.heap.size) := hZ hRl; obtain ⟨r, hr⟩ := eX (H[i]); rw [hr] at HRw; have Hr := hZ hr; have HSr : Hid (∀ x ∈ r, Sz k x) := hZ (hr ▸ HS.o _ (List.getElem_mem hiH)); clear hr hRl; obtain ⟨g, hg⟩ := eX (l[i].1); obtain ⟨o, ho⟩ := eX (l[i].2.1); obtain ⟨q, hq⟩ := eX (l[i].2.2); rw [show l[i] = (g, o, q) by rw [<- hg, <- ho, <- hq]] at HRw; rw [hg, ho, hq] at HGi; clear hg ho hq; have HW : Hid (Below ws.heap.size ws ws) := hZ (Below.refl _ _); have hrn : r.length = n := HRw.o.2
   go_wp2_with fail
   go_loopw [7, 6] (fun kv rv wr => ∃ (j : Nat) (ra : Option Addr) (rc : Nat), j <= n /\ kv = .int .i64 j /\ rv = .slice ra j rc /\ Hid (wr.ownsRow ws.heap.size 3 1 (.slice ra j rc) j ((r.take j).map zv)) /\ Hid (∀ x ∈ r.take j, qEm x) /\ Hid (Below ws.heap.size ws wr)) (fun kv _ _ => n - (intOf kv).toNat)
   case atStart => exact ⟨0, none, 0, by omega, rfl, rfl, hZ (World.ownsRow_nil _ _ _ _), hZ (fun x h => by simp at h), HW⟩
   case round =>
    clear HW; obtain ⟨j, ra, rc, hj, rfl, rfl, HO, HFj, HW⟩ := hrel; obtain ⟨w1, rfl⟩ := eY wr; have HBw := hZ (HB.o.trans (HW.o.mono HB.o.size)); have e0 := (HBw.o.cell (p := ⟨R, i, none⟩) HRl.o).trans HGi.o; by_cases hjn : j < n
    ·skip
     have j1 : (0 : Int) <= (j : Int) := by omega
     have j2 : (j : Int) < (n : Int) := by omega
     have hjr : j < r.length := by rw [hrn]; exact hjn
     obtain ⟨s_x, a_x, n_x, c_x, d0x, d1x, h_x⟩ := (HRw.o.1.blw HBw.o).get j hjr; simp only [] at d0x d1x; obtain ⟨x, hx⟩ := eX (r[j]); rw [hx] at h_x; have Hx := hZ hx; have Vx := hZ h_x; have Sx : Hid (Sz k x) := hZ (hx ▸ HSr.o _ (List.getElem_mem hjr)); have HxH : Hid (r ∈ H /\ x ∈ r) := hZ ⟨Hr.o ▸ List.getElem_mem hiH, hx ▸ List.getElem_mem hjr⟩; clear h_x hx
     go_wp2_with fail
     clear d0x d1x e0; refine (qL2 (w := w1) Vx.o Sx.o hk).mono ?_; rintro e w2 ⟨rfl, hB⟩; replace HW := bT HW hB; replace HO := hZ (qDo hB HO.o); clear hB HBw Vx; by_cases hf : qEm x
     ·skip
      rw [qEy hf]
      go_wp2_with (at_builtin; refine qBH (W0 := ws) qFa rfl _ _ rfl [.int .i64 x] 3 (.slice ra j rc) j ((r.take j).map zv) rfl rfl rfl (by simp [Value.oneCell']) HO.o HW.o HW.o.size (by omega) (by omega) ?_)
      intro g9 cap9 w9 ho9 hb9 hon9 hc9 hgg; obtain ⟨w3, rfl⟩ := eY w9
      go_wp2_with fail
      go_roundw
      case rel => exact ⟨j + 1, some ⟨g9, 0, none⟩, cap9, by omega, by go_num, rfl, hZ (by rw [qCZ hjr Hx.o.symm, List.map_append, List.map_take]; exact ho9.o), hZ (fun y hy => by rw [qCZ hjr Hx.o.symm] at hy; rcases List.mem_append.1 hy with h9 | h9; exact HFj.o y h9; rw [List.mem_singleton.1 h9]; exact hf), hb9⟩
      case measure => simp [intOf]; omega
     ·skip
      rw [qEx hf]
      go_wp2_with fail
      have HBf := hZ (HB.o.trans (HW.o.mono HB.o.size)); exact bodyPost_ret (v := .tuple #[.slice none 0 0, .int .i64 4]) (by simp [results, Try.results36, go_sem]) rfl ⟨HBf.o, .inl ⟨rfl, r, HxH.o.1, x, HxH.o.2, hf⟩⟩
    ·skip
     have hjn2 : j = n := by omega
     have HOr : Hid (w1.ownsRow ws.heap.size 3 1 (.slice ra n rc) n (r.map zv)) := hZ (by have h9 := HO.o; rw [hjn2, List.take_of_length_le (by omega)] at h9; exact h9); have HFr : Hid (∀ x ∈ r, qEm x) := hZ (by have h9 := HFj.o; rwa [List.take_of_length_le (by omega)] at h9); have HY1 : Hid ((∀ g, (Value.slice ga i gc).ownBlock = some g -> g < ws.heap.size) /\ ∀ t (ht : t < lo.length) g, (yV n lo[t]).ownBlock = some g -> g < ws.heap.size) := hZ ⟨fun g hg => (HY.o.own.lt g hg).2, fun t ht g hg => ((HY.o.row t ht (by rw [HY.o.len]; exact ht)).1.lt g hg).2⟩; replace HY := hZ (HY.o.blw HW.o); replace HB := HBw; clear HBw; have Hjn2 := hZ hjn2; clear hjn2
     go_wp2_with (at_builtin; refine qBH (W0 := w0) qJe rfl _ _ rfl [.slice ra j rc] 22 (.slice ga i gc) i (lo.map (yV n)) rfl rfl rfl (by simp [Value.oneCell']) (by have h9 := HY.o.own; rw [HLo.o] at h9; exact h9) HB.o HB.o.size (by omega) (by omega) ?_)
     intro g9 cap9 w9 ho9 hb9 hon9 hc9 hgg; obtain ⟨w3, rfl⟩ := eY w9; rw [Hjn2.o] at ho9
     go_wp2_with fail
     go_roundw
     case rel =>
      refine ⟨i + 1, some ⟨g9, 0, none⟩, cap9, lo ++ [(ra, rc)], by omega, by go_num, rfl, hZ (by simp [HLo.o]), hZ ?_, hZ (fun y hy => by rw [List.take_succ_eq_append_getElem hiH, Hr.o] at hy; rcases List.mem_append.1 hy with h9 | h9; exact HF.o y h9; rw [List.mem_singleton.1 h9]; exact HFr.o), hb9⟩; have h9 := YMt.snoc (g := g9) (c := cap9) (x := (ra, rc)) (r := r) HY.o (qHm HOr.o HB0s.o) hrn (fun t ht b hb e => by have h8 := HY1.o.2 t ht b hb; have h7 := HOr.o.lt b e; omega) hon9.o (by have h8 := ho9.o; rw [HLo.o]; exact h8); rw [HLo.o] at h9; rw [List.take_succ_eq_append_getElem hiH, Hr.o]; exact h9
     case measure => simp [intOf]; omega
  ·skip
   have hiN2 : i = N := by omega
   have HYf : Hid (qAD ws (.slice ga i gc) H) := hZ (by have h9 := HY.o.mat; rwa [List.take_of_length_le (by rw [HL.o, HNl.o]; omega)] at h9); have HFf : Hid (∀ r ∈ H, ∀ x ∈ r, qEm x) := hZ (by have h9 := HF.o; rwa [List.take_of_length_le (by rw [HL.o, HNl.o]; omega)] at h9); clear hiN2
   go_wp2_with fail
   exact bodyPost_ret (v := .tuple #[.slice ga i gc, .int .i64 0]) (by simp [results, Try.results36, go_sem]) rfl ⟨HB.o, .inr ⟨_, rfl, HYf.o, HFf.o⟩⟩
open Go.RowKit
theorem qH8 (v : Value) (m : List (List Int)) (w : World) (h : qAD w v m) :
 Calls Try.prog 34 #[v] w fun e w' => e = .returned (.int .i64 (qAF m)) /\ Below w.heap.size w w' := by
 have H := hZ h; obtain ⟨av, cv, rfl, q1, q2⟩ := h.form; clear h; by_cases hr : 64 < m.length
 ·have r1 : (64 : Int) < (m.length : Int) := by omega
  have HZ := hZ (qEf hr)
  go_enter Try.func34, Try.ntmps34
  go_wp2_with fail
  go_ret; exact ⟨by rw [HZ.o]; rfl, Below.refl _ _⟩
 ·have r1 : ¬ (64 : Int) < (m.length : Int) := by omega
  go_enter Try.func34, Try.ntmps34
  go_wp2_with fail
  go_loopw [3] (fun i wr => ∃ j : Nat, j <= m.length /\ i = .int .i64 j /\ Hid (∀ r ∈ m.take j, r.length <= 128) /\ Hid (Below w.heap.size w wr)) (fun i _ => m.length - (intOf i).toNat)
  case atStart => exact ⟨0, by omega, rfl, hZ (by simp), hZ (Below.refl _ _)⟩
  case round =>
   obtain ⟨j, hj, rfl, HT, HB⟩ := hrel; by_cases hlt : j < m.length
   ·obtain ⟨b, cap, a, c, hv, hb, n1, HI, g1, g2⟩ := (H.o.below HB.o).at_ j hlt
    injection hv with f1 f2 f3; subst f1; clear f2 f3; have i1 : (0 : Int) <= (j : Int) := by omega
    have i2 : (j : Int) < (m.length : Int) := by omega
    have HI := hZ HI; have HM : Hid (m[j] ∈ m) := hZ (List.getElem_mem hlt); have HS := hZ (fun h2 => qAR (P := fun r => r.length <= 128) hlt HT.o h2); clear HT; generalize m[j] = r at *; by_cases hx : 128 < r.length
    ·have s1 : (128 : Int) < (r.length : Int) := by omega
     have HZ := hZ (qEg (by omega) HM.o hx)
     go_wp2_with fail
     go_ret; exact ⟨by rw [HZ.o]; rfl, HB.o⟩
    ·have s1 : ¬ (128 : Int) < (r.length : Int) := by omega
     go_wp2_with fail
     go_roundw
     case rel => exact ⟨j + 1, by omega, by go_num, hZ (HS.o (by omega)), HB⟩
     case measure => simp [intOf]; omega
   ·have hC : ∀ r ∈ m, r.length <= 128 := by have := HT.o; rwa [List.take_of_length_le (by omega)] at this
    have HC := hZ hC; clear hC HT
    go_wp2_with fail
    go_loopw [4] (fun i wr => ∃ j : Nat, j <= m.length /\ i = .int .i64 j /\ Hid (∀ r ∈ m.take j, r.length = (m[0]?.getD []).length) /\ Hid (Below w.heap.size w wr)) (fun i _ => m.length - (intOf i).toNat)
    case atStart => exact ⟨0, by omega, rfl, hZ (by simp), HB⟩
    case round =>
     clear HB hj hlt; obtain ⟨j, hj, rfl, HT, HB⟩ := hrel; by_cases hlt : j < m.length
     ·obtain ⟨b, cap, a, c, hv, hb, n1, HI, g1, g2⟩ := (H.o.below HB.o).at_ j hlt
      have h0 : 0 < m.length := by omega
      obtain ⟨b0, cap0, a0, c0, hv0, hb0, n0, HI0, g10, g20⟩ := (H.o.below HB.o).at_ 0 h0; injection hv with f1 f2 f3; subst f1; clear f2 f3; injection hv0 with f1 f2 f3; injection f1 with f1; injection f1 with f1; subst f1; clear f2 f3; have i1 : (0 : Int) <= (j : Int) := by omega
      have i2 : (j : Int) < (m.length : Int) := by omega
      have i3 : (0 : Int) < (m.length : Int) := by omega
      clear HI HI0; have HM : Hid (m[j] ∈ m) := hZ (List.getElem_mem hlt); have HS := hZ (fun h2 => qAR (P := fun r => r.length = (m[0]?.getD []).length) hlt HT.o h2); have HE : Hid ((m[0]?.getD []).length = m[0].length) := hZ (by simp [List.getElem?_eq_getElem h0]); have HZ := hZ (fun h3 => qEG (by omega) HC.o h0 HM.o h3); clear HT; generalize m[j] = r at *; generalize m[0] = r0 at *; by_cases hx : r.length = r0.length
      ·have s1 : ((r.length : Int) == (r0.length : Int)) = true := by simp [hx]
       have s2 : ((r.length : Int) != (r0.length : Int)) = false := by simp [hx]
       have s3 : (r.length == r0.length) = true := by simp [hx]
       have s4 : (r.length != r0.length) = false := by simp [hx]
       have HX := hZ hx; clear hx
       go_wp2_with fail
       obtain ⟨wd, hwd⟩ := eX wr.drew; have hB9 : Below wr.heap.size wr wd := by rw [<- hwd]; exact (Below.refl _ _).drew
       replace HB := hZ (HB.o.trans (hB9.mono HB.o.size)); replace n1 := (hB9.cell (p := ⟨b, j, none⟩) hb).trans n1; replace n0 := (hB9.cell (p := ⟨b, 0, none⟩) hb).trans n0; replace hb := Nat.lt_of_lt_of_le hb hB9.size; clear hB9; refine qAs [] (fun w' => qAb (fun b => False) wd w') (by kernel_rfl) (by rw [hwd]; exact qAb.refl _ _) (fun hHeld => ?_); rw [hwd] at hHeld ⊢; clear hwd; refine pU 0 28 ?_; refine pU 1 29 ?_; refine pU 2 30 ?_; refine qDR 3 31 (v := ?_) rfl rfl (by kernel_rfl) (by kernel_rfl) (by kernel_rfl) (by kernel_rfl) (by kernel_rfl) (fun _ _ _ h => h) (by rfl) ?_ (by assumption) ?_; rotate_left
       ·(intro w; intro hSw; have x0 := (hSw.cell (p := ⟨b, j, none⟩) (fun h => h) hb).trans n1; go_simp; first | done | with_reducible rfl)
       simp only [sX1, sX2, sX3]; refine pU 4 32 ?_; refine pU 5 33 ?_; refine pU 6 34 ?_; refine qDR 7 35 (v := ?_) rfl rfl (by kernel_rfl) (by kernel_rfl) (by kernel_rfl) (by kernel_rfl) (by kernel_rfl) (fun _ _ _ h => h) (by rfl) ?_ (by assumption) ?_; rotate_left
       ·(intro w; intro hSw; have x0 := (hSw.cell (p := ⟨b, 0, none⟩) (fun h => h) hb).trans n0; go_simp; first | done | with_reducible rfl)
       simp only [sX1, sX2, sX3]; refine pU 8 36 ?_; refine pU 9 37 ?_; refine dU ?_; clear hHeld
       go_wp2_with fail
       go_roundw
       case rel => exact ⟨j + 1, by omega, by go_num, hZ (HS.o (by rw [HE.o]; exact HX.o)), HB⟩
       case measure => simp [intOf]; omega
      ·have s1 : ((r.length : Int) == (r0.length : Int)) = false := by simp; omega
       have s2 : ((r.length : Int) != (r0.length : Int)) = true := by simp; omega
       have s3 : (r.length == r0.length) = false := by simp; omega
       have s4 : (r.length != r0.length) = true := by simp; omega
       have HX := hZ (HZ.o hx); clear hx
       go_wp2_with fail
       obtain ⟨wd, hwd⟩ := eX wr.drew; have hB9 : Below wr.heap.size wr wd := by rw [<- hwd]; exact (Below.refl _ _).drew
       replace HB := hZ (HB.o.trans (hB9.mono HB.o.size)); replace n1 := (hB9.cell (p := ⟨b, j, none⟩) hb).trans n1; replace n0 := (hB9.cell (p := ⟨b, 0, none⟩) hb).trans n0; replace hb := Nat.lt_of_lt_of_le hb hB9.size; clear hB9; refine qAs [] (fun w' => qAb (fun b => False) wd w') (by kernel_rfl) (by rw [hwd]; exact qAb.refl _ _) (fun hHeld => ?_); rw [hwd] at hHeld ⊢; clear hwd; refine pU 0 28 ?_; refine pU 1 29 ?_; refine pU 2 30 ?_; refine qDR 3 31 (v := ?_) rfl rfl (by kernel_rfl) (by kernel_rfl) (by kernel_rfl) (by kernel_rfl) (by kernel_rfl) (fun _ _ _ h => h) (by rfl) ?_ (by assumption) ?_; rotate_left
       ·(intro w; intro hSw; have x0 := (hSw.cell (p := ⟨b, j, none⟩) (fun h => h) hb).trans n1; go_simp; first | done | with_reducible rfl)
       simp only [sX1, sX2, sX3]; refine pU 4 32 ?_; refine pU 5 33 ?_; refine pU 6 34 ?_; refine qDR 7 35 (v := ?_) rfl rfl (by kernel_rfl) (by kernel_rfl) (by kernel_rfl) (by kernel_rfl) (by kernel_rfl) (fun _ _ _ h => h) (by rfl) ?_ (by assumption) ?_; rotate_left
       ·(intro w; intro hSw; have x0 := (hSw.cell (p := ⟨b, 0, none⟩) (fun h => h) hb).trans n0; go_simp; first | done | with_reducible rfl)
       simp only [sX1, sX2, sX3]; refine pU 8 36 ?_; refine pU 9 37 ?_; refine dU ?_; clear hHeld
       go_wp2_with fail
       go_ret; exact ⟨by rw [HX.o]; rfl, HB.o⟩
     ·have hE : ∀ r ∈ m, r.length = (m[0]?.getD []).length := by have := HT.o; rwa [List.take_of_length_le (by omega)] at this
      have HE := hZ hE; clear hE HT
      go_wp2_with fail
      go_loopw [5] (fun i wr => ∃ j : Nat, j <= m.length /\ i = .int .i64 j /\ Hid (∀ r ∈ m.take j, ∀ x ∈ r, -1099511627776 <= x /\ x <= 1099511627776) /\ Hid (Below w.heap.size w wr)) (fun i _ => m.length - (intOf i).toNat)
      case atStart => exact ⟨0, by omega, rfl, hZ (by simp), HB⟩
      case round =>
       clear HB hj hlt; obtain ⟨j, hj, rfl, HT, HB⟩ := hrel; by_cases hlt : j < m.length
       ·obtain ⟨b, cap, a, c, hv, hb, n1, HI, g1, g2⟩ := (H.o.below HB.o).at_ j hlt
        injection hv with f1 f2 f3; subst f1; clear f2 f3; have i1 : (0 : Int) <= (j : Int) := by omega
        have i2 : (j : Int) < (m.length : Int) := by omega
        have h0 : 0 < m.length := by omega
        have HI := hZ HI; have HM : Hid (m[j] ∈ m) := hZ (List.getElem_mem hlt); have HS := hZ (fun h2 => qAR (P := fun r => ∀ x ∈ r, -1099511627776 <= x /\ x <= 1099511627776) hlt HT.o h2); have HZ : Hid (∀ x ∈ m[j], (x < -1099511627776 \/ 1099511627776 < x) -> qAF m = 5) := hZ (fun x hx h4 => qEH (by omega) HC.o h0 (fun r hr => by rw [HE.o r hr]; simp [List.getElem?_eq_getElem h0]) HM.o hx h4); clear HT; obtain ⟨r, hr⟩ := eX (m[j]); have Hr := hZ hr; have hr128 : r.length <= 128 := HC.o r (hr ▸ List.getElem_mem hlt); rw [hr] at HS HZ; clear hr n1 HI hb g1 g2 HM
        go_wp2_with fail
        go_loopw [6] (fun i w2 => ∃ k : Nat, k <= r.length /\ i = .int .i64 k /\ Hid (∀ x ∈ r.take k, -1099511627776 <= x /\ x <= 1099511627776) /\ Hid (Below wr.heap.size wr w2)) (fun i _ => r.length - (intOf i).toNat)
        case atStart => exact ⟨0, by omega, rfl, hZ (by simp), hZ (Below.refl _ _)⟩
        case round =>
         obtain ⟨k, hk, rfl, HT, HB2⟩ := hrel; obtain ⟨b', cap', a, c, hv, hb, n1, HI, g1, g2⟩ := (H.o.below (HB.o.trans (HB2.o.mono HB.o.size))).at_ j hlt; injection hv with f1 f2 f3; injection f1 with f1; injection f1 with f1; subst f1; clear f2 f3; rw [Hr.o] at n1 HI; have HI := hZ HI; by_cases hk2 : k < r.length
         ·obtain ⟨d, e1, hv1, hb1, m1⟩ := qAm.at_ HI.o k hk2
          injection hv1 with f1 f2 f3; subst f1; clear f2 f3; have k1 : (0 : Int) <= (k : Int) := by omega
          have k2 : (k : Int) < (r.length : Int) := by omega
          have HT2 := hZ (fun h2 => qAR (P := fun x : Int => -1099511627776 <= x /\ x <= 1099511627776) hk2 HT.o h2); have HZ2 := hZ (HZ.o r[k] (List.getElem_mem hk2)); have HB3 := hZ (HB.o.trans (HB2.o.mono HB.o.size)); generalize r[k] = x at *; by_cases hx : x < -1099511627776
          ·have HX := hZ (HZ2.o (Or.inl hx))
           go_wp2_with fail
           go_ret; exact ⟨by rw [HX.o]; rfl, HB3.o⟩
          ·by_cases hx2 : 1099511627776 < x
           ·have HX := hZ (HZ2.o (Or.inr hx2))
            go_wp2_with fail
            go_ret; exact ⟨by rw [HX.o]; rfl, HB3.o⟩
           ·go_wp2_with fail
            go_roundw
            case rel => exact ⟨k + 1, by omega, by go_num, hZ (HT2.o ⟨by omega, by omega⟩), HB2⟩
            case measure => simp [intOf]; omega
         ·have HB3 := hZ (HB.o.trans (HB2.o.mono HB.o.size))
          have HS2 := hZ (HS.o (by have := HT.o; rwa [List.take_of_length_le (by omega)] at this))
          go_wp2_with fail
          go_roundw
          case rel => exact ⟨j + 1, by omega, by go_num, HS2, HB3⟩
          case measure => simp [intOf]; omega
       ·have HX := hZ (qCy.2 ⟨by omega, HC.o, HE.o, by have := HT.o; rwa [List.take_of_length_le (by omega)] at this⟩)
        go_wp2_with fail
        go_ret; exact ⟨by rw [HX.o]; rfl, HB.o⟩
open Go.RowKit
def NBl (w : World) (B : Nat) (v : Value) (i n : Nat) (M : List (List Int)) (xs : List Value) : Prop := qBU isS w B 51 1 v i xs /\ (0 < n -> ∃ l : List Nw, l.length = i /\ xs = l.map (nrV n) /\ NOu w B v l n M /\ (∀ x ∈ l, B <= x.1) /\ ∀ a b (ha : a < l.length) (hb : b < l.length), a ≠ b -> l[a].1 ≠ l[b].1)
theorem NBl.nil (w : World) (B n : Nat) : NBl w B (.slice none 0 0) 0 n [] [] := ⟨qBU.nil _ _ _ _, fun _ => ⟨[], rfl, rfl, NOu.nil _ _ _, fun x h => by simp at h, fun a b ha => by simp at ha⟩⟩
theorem NBl.blw {w w' : World} {B i n : Nat} {v : Value} {M : List (List Int)} {xs : List Value} (h : NBl w B v i n M xs) (hb : Below w.heap.size w w') : NBl w' B v i n M xs :=
 ⟨h.1.blw hb, fun hn => by obtain ⟨l, h1, h2, h3, h4⟩ := h.2 hn; exact ⟨l, h1, h2, h3.blw hb, h4⟩⟩
instance {w w' : World} {B i n : Nat} {v : Value} {M : List (List Int)} {xs : List Value} : Mv w w' (NBl w B v i n M xs) (NBl w' B v i n M xs) := ⟨fun hb h => NBl.blw h hb⟩
theorem NBl.snoc {w w1 w2 : World} {B i n : Nat} {v v2 u : Value} {M : List (List Int)} {r : List Int} {xs xs' : List Value} (h : NBl w B v i n M xs) (hb : Below w.heap.size w w1) (hu : qBU qIr w1 w.heap.size 61 2 u n xs') (hz : NLs w1 xs' r) (hl : r.length = n)
 (hBw : B <= w.heap.size) (hown : qBU isS w2 B 51 1 v2 (i + 1) (xs ++ [u])) (ho : qAb (fun b => v.ownBlock = some b) w1 w2) : NBl w2 B v2 (i + 1) n (M ++ [r]) (xs ++ [u]) := by
 refine ⟨hown, fun hn => ?_⟩; obtain ⟨l, h1, rfl, h2, h3, h4⟩ := h.2 hn; obtain ⟨g, c, rfl, q1, q2, q3, q4⟩ := hu.some_ hn; obtain ⟨g2, c2, rfl, p1, p2, p3, p4⟩ := hown.some_ (by omega); subst h1; have hr := hu.nro hz; have hlt : ∀ a (ha : a < l.length), l[a].1 < w.heap.size := fun a ha => (h2.row a ha (by rw [h2.len]; exact ha)).1.lt; refine ⟨l ++ [(g, 0, c)], by simp, by rw [List.map_append]; rfl, NOu.snoc (x := (g, 0, c)) (h2.blw hb) hr hl hn q1 q2 ho hown, fun x hx => ?_, fun a b ha hb' hab => ?_⟩
 ·rcases List.mem_append.1 hx with h9 | h9
  ·exact h3 x h9
  ·rw [List.mem_singleton.1 h9]; exact Nat.le_trans hBw q3
 ·simp only [List.length_append, List.length_singleton] at ha hb'
  rw [List.getElem_append, List.getElem_append]
  split <;> split
  ·exact h4 a b _ _ hab
  ·rename_i ha' _
   have := hlt a ha'; simp only [List.getElem_singleton]; omega
  ·rename_i hb9
   have := hlt b hb9; simp only [List.getElem_singleton]; omega
  ·omega
theorem NBl.nmt {w : World} {B R c m n : Nat} {M : List (List Int)} {xs : List Value} (h : NBl w B (.slice (some ⟨R, 0, none⟩) m c) m n M xs) (hn : 0 < n) : ∃ l : List Nw, NMt w B R c m l n M /\ (∀ x ∈ l, B <= x.1) := by
 obtain ⟨l, h1, rfl, h2, h3, h4⟩ := h.2 hn; have hlen := h2.len; exact ⟨l, ⟨h.1, h1, by omega, h2.row, h4, fun i hi => qCc h2.own rfl (h2.row i hi (by omega)).1 (by have := (h2.row i hi (by omega)).2; omega), h2.cap⟩, h3⟩
theorem qK1 {a : Option Addr} {n c : Nat} : ∀ u ∈ ([.slice a n c] : List Value), isS u := by
 intro u hu; simp at hu; subst hu; exact ⟨_, _, _, rfl⟩
theorem qJB : ∀ u ∈ (Value.slice none 0 0).cells, isS u := by
 intro u hu; simp [Value.cells] at hu; subst hu; exact ⟨_, _, _, rfl⟩
theorem qJ6 {m : List (List Int)} (h : qBT m) {i : Nat} (hi : i < m.length) : ∀ x ∈ m[i], -9223372036854775808 <= x /\ x <= 9223372036854775807 := fun x hx => by
 have := h.small _ (List.getElem_mem hi) x hx; omega
theorem qBT.sz41 {m : List (List Int)} (h : qBT m) : ∀ r ∈ m, ∀ x ∈ r, Sz 41 x := fun r hr x hx => by
 have := h.small r hr x hx; have e : (2 : Nat) ^ 41 = 2199023255552 := by decide
 unfold Sz; rw [e]; omega
theorem qFJ (w0 : World) (a : Option Addr) (k c columns : Nat) (h : columns = 0 \/ k = 0) (hk : k <= 1000) (hc : columns <= 1000) :
 Calls Try.prog 37 #[.slice a k c, .int .i64 columns] w0 fun e w' => e = .returned (.slice none 0 0) /\ Below w0.heap.size w0 w' := by
 have HB := hZ (Below.refl w0.heap.size w0); have HE := hZ (qFY w0 a k c columns h hk hc)
 go_enter Try.func37, Try.ntmps37
 go_wp2_with fail
 refine HE.o.mono ?_; rintro e w1 ⟨rfl, hB⟩; replace HB := bT HB hB; clear hB HE
 go_wp2_with fail
 go_loopw [8, 7] (fun iv ov wr => iv = .int .i64 0 /\ ov = .slice none 0 0 /\ Hid (Below w0.heap.size w0 wr)) (fun _ _ _ => 0)
 case atStart => exact ⟨rfl, rfl, HB⟩
 case round =>
  obtain ⟨rfl, rfl, HB⟩ := hrel
  go_wp2_with fail
  go_ret; exact ⟨rfl, HB.o⟩
theorem qGF (w0 : World) : Calls Try.prog 36 #[.slice none 0 0] w0 fun e w' => Below w0.heap.size w0 w' /\ qBl [] e w' :=
 qIP w0 _ 0 1 1 [] [] (NOu.nil _ _ _) (by omega) (by omega) (by simp) (fun r h => by simp at h) (by omega)
theorem qFK (w0 : World) (v : Value) (m : List (List Int)) (h : qAD w0 v m) (hm6 : m.length <= 6) : Calls Try.prog 15 #[v] w0 (qCG w0 m) := by
 have H := hZ h; have HB := hZ (Below.refl w0.heap.size w0); obtain ⟨av, cv, rfl, q1, q2⟩ := h.form; obtain ⟨i0, hi, hz0, hz1, hz2⟩ := info_parts qKu; have Hi := hZ hi; have Hz0 := hZ hz0; have Hz1 := hZ hz1; have Hz2 := hZ hz2; have Hm6 := hZ hm6; clear h hi hz0 hz1 hz2
 go_enter Try.func15, Try.ntmps15
 go_wp2_with fail
 refine (qH8 _ m w0 H.o).mono ?_; rintro e w1 ⟨rfl, hB⟩; replace HB := bT HB hB; clear hB; by_cases hz : qAF m = 0
 ·skip
  have Hc := hZ (qCy.1 hz); have Hz := hZ hz; rw [hz]; clear hz; obtain ⟨n, hn⟩ := eX (qAM m); have Hn := hZ hn; have Hlen : Hid (∀ r ∈ m, r.length = n) := hZ (hn ▸ Hc.o.len); have hn128 : n <= 128 := hn ▸ Hc.o.cols_; clear hn; by_cases hm0 : m.length = 0
  ·skip
   have z1 : ((m.length : Int) == 0) = true := by rw [beq_iff_eq]; omega
   have Hm0 := hZ hm0; clear hm0
   go_wp2_with fail
   exact bodyPost_ret (v := .tuple #[.slice none 0 0, .int .i64 0]) (by simp [results, Try.results15, go_sem]) rfl ⟨HB.o, .inr ⟨Hz.o, [], qC5 (fun r hr => by have := List.length_pos_of_mem hr; have := Hm0.o; omega) 0, fun r h => by simp at h, by simp, .inr ⟨_, rfl, qAh.nil _ 0 (by omega), fun r h => by simp at h⟩⟩⟩
  ·skip
   have z1 : ((m.length : Int) == 0) = false := by rw [beq_eq_false_iff_ne]; omega
   have z0 : 0 < m.length := by omega
   go_wp2_with fail
   go_loopw [6, 5] (fun iv lv wr => ∃ (i : Nat) (ga : Option Addr) (gc : Nat) (xs : List Value), i <= m.length /\ iv = .int .i64 i /\ lv = .slice ga i gc /\ Hid (NBl wr w0.heap.size (.slice ga i gc) i n (m.take i) xs) /\ Hid (Below w0.heap.size w0 wr)) (fun iv _ _ => m.length - (intOf iv).toNat)
   case atStart => exact ⟨0, none, 0, [], by omega, rfl, rfl, hZ (NBl.nil _ _ _), HB⟩
   case round =>
    clear HB; obtain ⟨i, ga, gc, xs, hi, rfl, rfl, HN, HB⟩ := hrel; obtain ⟨w1, rfl⟩ := eY wr; by_cases him : i < m.length
    ·skip
     have i1 : (0 : Int) <= (i : Int) := by omega
     have i2 : (i : Int) < (m.length : Int) := by omega
     obtain ⟨b, cap, a, c, hv, hb, n0, HR, g1, g2⟩ := H.o.at_ i him; injection hv with f1 f2 f3; subst f1; clear f2 f3; have HLi : Hid (m[i].length = n) := hZ (Hlen.o _ (List.getElem_mem him)); have n1 := (HB.o.cell (p := ⟨b, i, none⟩) hb).trans n0; clear n0 hb g1 g2; have HRow := hZ (qMy w1 _ m[i] (HR.below HB.o) (qJ6 Hc.o him) (by rw [HLi.o]; omega)); clear HR
     go_wp2_with fail
     clear n1; refine HRow.o.mono ?_; rintro e w2 ⟨u, xs', rfl, hu, hz, hB⟩; clear HRow; obtain ⟨au, cu, rfl, -, -⟩ := hu.form; have HBs := hZ HB.o.size; have HU : Hid (qBU qIr w2 w1.heap.size 61 2 (.slice au n cu) n xs') := hZ (by have h9 := hu; rw [HLi.o] at h9; exact h9); have HZ := hZ hz; have HBr := hZ hB; replace HB := bT HB hB; clear hu hz hB; rw [HLi.o]; have HS2 := hZ HB.o.size
     go_wp2_with (at_builtin; refine qCM rfl _ _ 50 rfl w0.heap.size 51 i0 _ 1 24 Try.underlying50 Hi.o Hz0.o Hz1.o Hz2.o rfl (by decide) (Q := isS) qJB (.slice ga i gc) i xs rfl (((HN.o.blw HBr.o).blw ((Below.refl _ _).alloc (Nat.le_refl _) _)).1) ⟨w2.heap.size, 0, none⟩ 1 1 [.slice au n cu] rfl rfl (qHn (One.new _ _ _)) (by simp [Value.oneCell']) qK1 (by decide) (by unfold maxLen; omega) (by omega) (by simp; have := HS2.o; omega) ?_)
     intro v5 w5 hown hon; obtain ⟨wc, hwc⟩ := eX (w2.alloc (.cells #[.slice au n cu] 51)); have hBc : Below w2.heap.size w2 wc := by rw [<- hwc]; exact (Below.refl _ _).alloc (Nat.le_refl _) _
     have HNc := hZ ((HN.o.blw HBr.o).blw hBc); have HUc := hZ (HU.o.blw hBc); have HZc := hZ (HZ.o.blw hBc); have HBc := hZ (HB.o.trans (hBc.mono HB.o.size)); have HBrc := hZ (HBr.o.trans (hBc.mono HBr.o.size)); clear hBc; rw [hwc] at hon; obtain ⟨a5, c5, rfl, -, -⟩ := hown.form; have HNn := hZ (HN.o.snoc HBrc.o HUc.o HZc.o HLi.o HBs.o hown hon); have HBn := hZ (qAn HBc.o hon (fun b e => (HN.o.1.lt b e).1) HBc.o.size); clear hwc HNc HUc HZc HBc HBrc hown hon HU HZ HBr
     go_wp2_with fail
     go_roundw
     case rel => exact ⟨i + 1, a5, c5, xs ++ [.slice au n cu], by omega, by go_num, rfl, hZ (by rw [List.take_succ_eq_append_getElem him]; exact HNn.o), HBn⟩
     case measure => simp [intOf]; omega
    ·skip
     have hie : i = m.length := by omega
     have HNf : Hid (NBl w1 w0.heap.size (.slice ga m.length gc) m.length n m xs) := hZ (by have h9 := HN.o; rw [hie, List.take_of_length_le (Nat.le_refl _)] at h9; exact h9)
     skip
     clear HN; have Hie := hZ hie; clear hie; clear z1; obtain ⟨b0, cap0, a0, c0, hv0, hb0, n0, HR0, -, -⟩ := H.o.at_ 0 z0; injection hv0 with f1 f2 f3; subst f1; clear f2 f3 HR0; have Hr0 : Hid ((m[0]'z0).length = n) := hZ (Hlen.o _ (List.getElem_mem _)); rw [Hr0.o] at n0; have d0 := (HB.o.cell (p := ⟨b0, 0, none⟩) hb0).trans n0; clear n0 hb0; have i3 : ¬ (i : Int) < (m.length : Int) := by omega
     go_wp2_with fail
     have hi9 := Hie.o; clear i3 d0; rw [hi9]; clear hi9 him; rcases Nat.eq_zero_or_pos n with hn0 | hn0
     ·skip
      have HP := hZ (qFJ w1 ga m.length gc n (.inl hn0) (by omega) (by omega)); refine HP.o.mono ?_; rintro e w2 ⟨rfl, hB⟩; replace HB := bT HB hB; have Hn0 := hZ hn0; clear hB HP hn0
      go_wp2_with fail
      refine (qGF w2).mono ?_; rintro e w3 ⟨hB, ⟨rfl, k5⟩ | ⟨u, rfl, k5, k6⟩⟩
      ·skip
       replace HB := bT HB hB; have K5 := hZ k5; clear hB k5
       go_wp2_with fail
       exact bodyPost_ret (v := .tuple #[.slice none 0 0, .int .i64 4]) (by simp [results, Try.results15, go_sem]) rfl ⟨HB.o, .inr ⟨Hz.o, [], qC5 (fun r hr => by rw [Hlen.o r hr]; exact Hn0.o) 0, fun r h => by simp at h, by simp, .inl ⟨rfl, K5.o⟩⟩⟩
      ·skip
       replace HB := bT HB hB; have K5 := hZ k5; have K6 := hZ k6; clear hB k5 k6
       go_wp2_with fail
       exact bodyPost_ret (v := .tuple #[u, .int .i64 0]) (by simp [results, Try.results15, go_sem]) rfl ⟨HB.o, .inr ⟨Hz.o, [], qC5 (fun r hr => by rw [Hlen.o r hr]; exact Hn0.o) 0, fun r h => by simp at h, by simp, .inr ⟨u, rfl, K5.o, K6.o⟩⟩⟩
     ·skip
      obtain ⟨R, cR, e9, -, -, hRB, -⟩ := HNf.o.1.some_ z0; injection e9 with e1 e2 e3; subst e1 e3; clear e2; obtain ⟨l, hN, hl⟩ := HNf.o.nmt hn0; have HP := hZ (qGH w1 w0.heap.size R gc m.length n 41 l m hN HB.o.size z0 (by omega) hn0 (by omega) Hc.o.sz41 (by omega) (Nat.le_trans (Nat.mul_le_mul_left 41 (Nat.pow_le_pow_right (by omega) (show m.length - 1 <= 5 by omega))) (by decide)) hl); clear hN hl HNf hRB; refine HP.o.mono ?_; rintro e w2 ⟨u, B, l, Hm, rfl, hO, k1, k2, k3, k4, hB⟩; have HO := hZ (qIP w2 u B n 2000000 l Hm hO hn0 (by omega) (by omega) k4 (by omega)); replace HB := hZ (HB.o.trans hB); have K1 := hZ k1; have K2 := hZ k2; have K3 := hZ k3; clear hB HP k1 k2 k3 k4 hO
      go_wp2_with fail
      refine HO.o.mono ?_; rintro e w3 ⟨hB, ⟨rfl, k5⟩ | ⟨u, rfl, k5, k6⟩⟩
      ·skip
       replace HB := bT HB hB; have K5 := hZ k5; clear hB k5
       go_wp2_with fail
       exact bodyPost_ret (v := .tuple #[.slice none 0 0, .int .i64 4]) (by simp [results, Try.results15, go_sem]) rfl ⟨HB.o, .inr ⟨Hz.o, Hm, K1.o, fun r hr => by rw [K3.o r hr, Hn.o], K2.o, .inl ⟨rfl, K5.o⟩⟩⟩
      ·skip
       replace HB := bT HB hB; have K5 := hZ k5; have K6 := hZ k6; clear hB k5 k6
       go_wp2_with fail
       exact bodyPost_ret (v := .tuple #[u, .int .i64 0]) (by simp [results, Try.results15, go_sem]) rfl ⟨HB.o, .inr ⟨Hz.o, Hm, K1.o, fun r hr => by rw [K3.o r hr, Hn.o], K2.o, .inr ⟨u, rfl, K5.o, K6.o⟩⟩⟩
 ·skip
  have s1 : (qAF m != 0) = true := by simpa using hz
  have s2 : (qAF m == 0) = false := by simpa using hz
  have Hz := hZ hz; clear hz; obtain ⟨z, hz⟩ := eX (qAF m); have Hzz := hZ hz; rw [hz] at s1 s2 ⊢; clear hz
  go_wp2_with fail
  exact bodyPost_ret (v := .tuple #[.slice none 0 0, .int .i64 z]) (by simp [results, Try.results15, go_sem]) rfl ⟨HB.o, .inl ⟨Hz.o, by rw [Hzz.o]⟩⟩
open Go.RowKit
def qBC (w0 : World) (b : List (List Int)) (n : Nat) (e : Ending) (w' : World) : Prop :=
 Below w0.heap.size w0 w' /\ ∃ t : Bool, e = .returned (.bool t) /\ (t = true ↔ IsN b n)
theorem qBC.no {w0 w' : World} {b : List (List Int)} {n : Nat} (h : ¬ IsN b n) (hB : Below w0.heap.size w0 w') : qBC w0 b n (.returned (.bool false)) w' := ⟨hB, false, rfl, by simp [h]⟩
theorem qJL (w0 : World) (v : Value) (b : List (List Int)) (n : Nat) (h : qAD w0 v b) (hb : b.length <= 1000) (hn : n <= 1000) : Calls Try.prog 20 #[v, .int .i64 n] w0 (qBC w0 b n) := by
 have H := hZ h; have HB := hZ (Below.refl w0.heap.size w0); obtain ⟨av, cv, rfl, q1, q2⟩ := h.form; clear h
 go_enter Try.func20, Try.ntmps20
 go_wp2_with fail
 go_loopw [6, 5] (fun i last wr => ∃ (j : Nat), j <= b.length /\ i = .int .i64 j /\ last = .int .i64 (qD6 b j) /\ Hid (∀ i, i < j -> qKF b n i) /\ Hid (Below w0.heap.size w0 wr)) (fun i _ _ => b.length - (intOf i).toNat)
 case atStart => exact ⟨0, by omega, rfl, rfl, hZ (fun i h => by omega), HB⟩
 case round =>
  clear HB; obtain ⟨j, hj, rfl, rfl, HI, HB⟩ := hrel; obtain ⟨w2, rfl⟩ := eY wr; by_cases hlt : j < b.length; rotate_left
  ·obtain rfl : j = b.length := by omega
   generalize qD6 b b.length = lz at *
   go_wp2_with fail
   go_ret; exact ⟨HB.o, true, rfl, ⟨fun _ => HI.o, fun _ => rfl⟩⟩
  have HLZ0 := qHr b j; obtain ⟨lz, hlz⟩ := eX (qD6 b j); rw [hlz] at HLZ0 ⊢; have HLZ := hZ HLZ0; clear hlz HLZ0; obtain ⟨bb, cap, a, c, hv, hbb, n1, HR0, g1, g2⟩ := H.o.at_ j hlt; injection hv with f1 f2 f3; subst f1; clear f2 f3; replace n1 := (HB.o.cell (p := ⟨bb, j, none⟩) hbb).trans n1; have i1 : (0 : Int) <= (j : Int) := by omega
  have i2 : (j : Int) < (b.length : Int) := by omega
  have HR := hZ HR0; obtain ⟨r, hr⟩ := eX (b[j]); have Hr := hZ hr; rw [hr] at n1 HR g1; clear HR0 hr; have fails : ∀ {P : Prop}, (qKF b n j -> False) -> ¬ IsN b n := fun h1 h2 => h1 (h2 j hlt); have Hf := hZ (fun (h1 : qKF b n j -> False) => @fails True h1); clear fails; by_cases hrl : r.length = n; rotate_left
  ·have s1 : ((r.length : Int) != (n : Int)) = true := by simp; omega
   have s2 : (r.length != n) = true := by simp; omega
   have HF := hZ (Hf.o (fun h => hrl (by rw [<- Hr.o]; exact (h hlt).1)))
   go_wp2_with fail
   go_ret; exact qBC.no HF.o HB.o
  have s1 : ((r.length : Int) != (n : Int)) = false := by simp [hrl]
  have s2 : (r.length != n) = false := by simp [hrl]
  go_wp2_with fail
  go_loopw [7] (fun i wr => ∃ q : Nat, q <= n /\ i = .int .i64 q /\ Hid (∀ c, c < q -> vec r c = 0) /\ w2 = wr) (fun i _ => n - (intOf i).toNat)
  case atStart => exact ⟨0, by omega, rfl, hZ (fun c h => by omega), rfl⟩
  case round =>
   obtain ⟨q, hq, rfl, HZ, rfl⟩ := hrel; by_cases hqn : q = n
   ·-- no entry
    have HF := hZ (Hf.o (fun h => by
     have h1 := (h hlt).2.1; rw [Hr.o, qIJ (fun c hc => HZ.o c (by omega))] at h1; omega))
    have t1 : ((q : Int) == (n : Int)) = true := by simp [hqn]
    have t2 : (q == n) = true := by simp [hqn]
    have t3 : ¬ (q : Int) < (n : Int) := by omega
    go_wp2_with fail
    go_ret; exact qBC.no HF.o HB.o
   have t1 : ((q : Int) == (n : Int)) = false := by rw [beq_eq_false_iff_ne]; omega
   have t2 : (q == n) = false := by rw [beq_eq_false_iff_ne]; omega
   have t3 : (q : Int) < (n : Int) := by omega
   have t4 : (0 : Int) <= (q : Int) := by omega
   have t5 : (q : Int) < (r.length : Int) := by omega
   obtain ⟨br, rfl, -, hbr, e0⟩ := qB1 HR.o q (by omega); replace e0 := (HB.o.cell (p := ⟨br, q, none⟩) hbr).trans e0; obtain ⟨z, hz⟩ := eX (vec r q); have Hz := hZ hz; rw [hz] at e0; clear hz; by_cases hz0 : z = 0
   ·subst hz0
    go_wp2_with fail
    go_roundw
    case rel => exact ⟨q + 1, by omega, by go_num, hZ (fun c hc => if h : c < q then HZ.o c h else by rw [show c = q by omega]; exact Hz.o), by trivial⟩
    case measure => simp [intOf]; omega
   have u1 : (z == 0) = false := by rw [beq_eq_false_iff_ne]; exact hz0
   have Hpv : Hid (pv r = q) := hZ (qKS HZ.o (by omega) (by rw [Hz.o]; exact hz0)); by_cases hql : (q : Int) <= lz
   ·have HF := hZ (Hf.o (fun h => by
     refine (HLZ.o q).1 hql (fun h0 => ?_); have h1 := (h hlt).2.2.2.1 (j - 1) (by omega); rw [Hr.o, Hpv.o] at h1; rw [List.getElem?_eq_getElem (show j - 1 < b.length by omega), Option.getD_some]; exact h1))
    go_wp2_with fail
    go_ret; exact qBC.no HF.o HB.o
   have HLq : Hid (0 < j -> pv (b[j - 1]?.getD []) < q) := hZ (Classical.byContradiction (fun h => hql ((HLZ.o q).2 h))); by_cases hzn : z < 0
   ·have HF := hZ (Hf.o (fun h => by
     have h1 := (h hlt).2.2.1; rw [Hr.o, Hpv.o, Hz.o] at h1; omega))
    go_wp2_with fail
    go_ret; exact qBC.no HF.o HB.o
   have hzp : 0 < z := by omega
   go_wp2_with fail
   have HE0 := hZ e0; have HN1 := hZ n1; have Hbr := hZ hbr; have Hbb := hZ hbb; have HW2 := hZ HB.o.size; clear e0 n1
   go_loopw [8] (fun i wr => ∃ k : Nat, k <= j /\ i = .int .i64 k /\ Hid (∀ t (ht : t < k), t < j -> 0 <= vec (b[t]?.getD []) q /\ vec (b[t]?.getD []) q < z) /\ Hid (Below w0.heap.size w0 wr) /\ Hid (Below w2.heap.size w2 wr)) (fun i _ => j - (intOf i).toNat)
   case atStart => exact ⟨0, by omega, rfl, hZ (fun t h => by omega), HB, hZ (Below.refl _ _)⟩
   case round =>
    clear HB; obtain ⟨k, hk, rfl, HA, HB, HC⟩ := hrel; obtain ⟨w3, rfl⟩ := eY wr; by_cases hkj : k < j
    ·have k1 : (0 : Int) <= (k : Int) := by omega
     have k2 : (k : Int) < (j : Int) := by omega
     have k3 : (k : Int) < (b.length : Int) := by omega
     obtain ⟨bb2, cap2, a2, c2, hv, hbb2, n0, HA0, g3, g4⟩ := H.o.at_ k (by omega); injection hv with f1 f2 f3; injection f1 with f1; injection f1 with f1; subst f1; clear f2 f3; have hak : b[k].length = n := (HI.o k hkj (by omega)).1; obtain ⟨ar, har⟩ := eX (b[k]'(by omega)); have Har := hZ har; rw [har] at n0 HA0 g3 hak; obtain ⟨ba, rfl, -, hba, e1⟩ := qB1 HA0 q (by omega); obtain ⟨y, hy⟩ := eX (vec ar q); have Hy := hZ hy; rw [hy] at e1; have hq2 : (q : Int) < (ar.length : Int) := by omega
     have HE1 := hZ ((HB.o.cell (p := ⟨ba, q, none⟩) hba).trans e1); have HN0 := hZ ((HB.o.cell (p := ⟨bb, k, none⟩) hbb).trans n0); have HE2 := hZ ((HC.o.cell (p := ⟨br, q, none⟩) (Nat.lt_of_lt_of_le Hbr.o HW2.o)).trans HE0.o); have HN2 := hZ ((HC.o.cell (p := ⟨bb, j, none⟩) (Nat.lt_of_lt_of_le Hbb.o HW2.o)).trans HN1.o); have HL := hZ (show br < w3.heap.size /\ ba < w3.heap.size /\ bb < w3.heap.size from ⟨Nat.lt_of_lt_of_le Hbr.o HB.o.size, Nat.lt_of_lt_of_le hba HB.o.size, Nat.lt_of_lt_of_le Hbb.o HB.o.size⟩); clear HA0 har hy e1 n0
     go_wp2_with fail
     have HD0 := hZ (Below.refl w3.heap.size w3); by_cases hy0 : y < 0
     ·skip
      obtain ⟨w4, hwd⟩ := eX w3.drew; have hB := dB hwd; replace HB := bT HB hB; replace HC := bT HC hB; replace HD0 := bT HD0 hB; clear hB; have HBr : Hid (qAb (fun b => False) w4 w4) := hZ (qAb.refl _ _); refine qAs [] (fun w' => qAb (fun b => False) w4 w') (by kernel_rfl) (by rw [hwd]; exact qAb.refl _ _) (fun hHeld => ?_); rw [hwd] at hHeld ⊢; clear hwd; have f0 : w4.cell? ⟨br, q, none⟩ = some (.int .i64 z) := (HD0.o.cell (p := ⟨br, q, none⟩) HL.o.1).trans HE2.o; have f1 : w4.cell? ⟨ba, q, none⟩ = some (.int .i64 y) := (HD0.o.cell (p := ⟨ba, q, none⟩) HL.o.2.1).trans HE1.o; have f2 := (HD0.o.cell (p := ⟨bb, k, none⟩) HL.o.2.2).trans HN0.o; have f3 := (HD0.o.cell (p := ⟨bb, j, none⟩) HL.o.2.2).trans HN2.o; have hlr : br < w4.heap.size := Nat.lt_of_lt_of_le HL.o.1 HD0.o.size; have hla : ba < w4.heap.size := Nat.lt_of_lt_of_le HL.o.2.1 HD0.o.size; have hlb : bb < w4.heap.size := Nat.lt_of_lt_of_le HL.o.2.2 HD0.o.size; refine pU 0 61 ?_; refine pU 1 62 ?_; refine pU 2 63 ?_; refine tU 3 64 (cF f2 hlb) ?_; refine pU 4 65 ?_; refine pU 5 66 ?_; refine tU 6 67 (cF f1 hla) ?_; refine pU 7 68 ?_; refine pU 8 69 ?_; refine sU 9 70 ?_; refine sU 10 71 ?_; refine sU 11 72 ?_; refine sU 12 73 ?_; refine sU 13 74 ?_; refine sU 14 75 ?_; refine sU 15 76 ?_; refine sU 16 77 ?_; refine sU 17 78 ?_; refine sU 18 79 ?_; refine sU 19 80 ?_; refine sU 20 81 ?_; refine sU 21 82 ?_; refine sU 22 83 ?_; refine sU 23 84 ?_; refine pU 24 85 ?_; refine dU ?_; clear hHeld; have HF := hZ (Hf.o (fun h => by
       have h1 := (h hlt).2.2.2.2 k hkj; rw [Hr.o, Har.o, Hpv.o, Hy.o] at h1; omega))
      go_wp2_with fail
      go_ret; exact qBC.no HF.o HB.o
     have hy1 : (y < 0) = False := by simp; omega
     by_cases hyz : y < z
     ·skip
      obtain ⟨w4, hwd⟩ := eX w3.drew; have hB := dB hwd; replace HB := bT HB hB; replace HC := bT HC hB; replace HD0 := bT HD0 hB; clear hB; have HBr : Hid (qAb (fun b => False) w4 w4) := hZ (qAb.refl _ _); refine qAs [] (fun w' => qAb (fun b => False) w4 w') (by kernel_rfl) (by rw [hwd]; exact qAb.refl _ _) (fun hHeld => ?_); rw [hwd] at hHeld ⊢; clear hwd; have f0 : w4.cell? ⟨br, q, none⟩ = some (.int .i64 z) := (HD0.o.cell (p := ⟨br, q, none⟩) HL.o.1).trans HE2.o; have f1 : w4.cell? ⟨ba, q, none⟩ = some (.int .i64 y) := (HD0.o.cell (p := ⟨ba, q, none⟩) HL.o.2.1).trans HE1.o; have f2 := (HD0.o.cell (p := ⟨bb, k, none⟩) HL.o.2.2).trans HN0.o; have f3 := (HD0.o.cell (p := ⟨bb, j, none⟩) HL.o.2.2).trans HN2.o; have hlr : br < w4.heap.size := Nat.lt_of_lt_of_le HL.o.1 HD0.o.size; have hla : ba < w4.heap.size := Nat.lt_of_lt_of_le HL.o.2.1 HD0.o.size; have hlb : bb < w4.heap.size := Nat.lt_of_lt_of_le HL.o.2.2 HD0.o.size; refine pU 0 61 ?_; refine pU 1 62 ?_; refine pU 2 63 ?_; refine tU 3 64 (cF f2 hlb) ?_; refine pU 4 65 ?_; refine pU 5 66 ?_; refine tU 6 67 (cF f1 hla) ?_; refine pU 7 68 ?_; refine pU 8 69 ?_; refine pU 9 70 ?_; refine pU 10 71 ?_; refine pU 11 72 ?_; refine tU 12 73 (cF f2 hlb) ?_; refine pU 13 74 ?_; refine pU 14 75 ?_; refine tU 15 76 (cF f1 hla) ?_; refine pU 16 77 ?_; refine pU 17 78 ?_; refine pU 18 79 ?_; refine tU 19 80 (cF f3 hlb) ?_; refine pU 20 81 ?_; refine pU 21 82 ?_; refine tU 22 83 (cF f0 hlr) ?_; refine pU 23 84 ?_; refine pU 24 85 ?_; refine dU ?_; clear hHeld
      go_wp2_with fail
      go_roundw
      case rel => exact ⟨k + 1, by omega, by go_num, hZ (fun t ht htj => if h9 : t < k then HA.o t h9 htj else by rw [show t = k by omega, List.getElem?_eq_getElem (show k < b.length by omega), Option.getD_some, Har.o, Hy.o]; exact ⟨by omega, hyz⟩), HB, HC⟩
      case measure => simp [intOf]; omega
     ·skip
      obtain ⟨w4, hwd⟩ := eX w3.drew; have hB := dB hwd; replace HB := bT HB hB; replace HC := bT HC hB; replace HD0 := bT HD0 hB; clear hB; have HBr : Hid (qAb (fun b => False) w4 w4) := hZ (qAb.refl _ _); refine qAs [] (fun w' => qAb (fun b => False) w4 w') (by kernel_rfl) (by rw [hwd]; exact qAb.refl _ _) (fun hHeld => ?_); rw [hwd] at hHeld ⊢; clear hwd; have f0 : w4.cell? ⟨br, q, none⟩ = some (.int .i64 z) := (HD0.o.cell (p := ⟨br, q, none⟩) HL.o.1).trans HE2.o; have f1 : w4.cell? ⟨ba, q, none⟩ = some (.int .i64 y) := (HD0.o.cell (p := ⟨ba, q, none⟩) HL.o.2.1).trans HE1.o; have f2 := (HD0.o.cell (p := ⟨bb, k, none⟩) HL.o.2.2).trans HN0.o; have f3 := (HD0.o.cell (p := ⟨bb, j, none⟩) HL.o.2.2).trans HN2.o; have hlr : br < w4.heap.size := Nat.lt_of_lt_of_le HL.o.1 HD0.o.size; have hla : ba < w4.heap.size := Nat.lt_of_lt_of_le HL.o.2.1 HD0.o.size; have hlb : bb < w4.heap.size := Nat.lt_of_lt_of_le HL.o.2.2 HD0.o.size; refine pU 0 61 ?_; refine pU 1 62 ?_; refine pU 2 63 ?_; refine tU 3 64 (cF f2 hlb) ?_; refine pU 4 65 ?_; refine pU 5 66 ?_; refine tU 6 67 (cF f1 hla) ?_; refine pU 7 68 ?_; refine pU 8 69 ?_; refine pU 9 70 ?_; refine pU 10 71 ?_; refine pU 11 72 ?_; refine tU 12 73 (cF f2 hlb) ?_; refine pU 13 74 ?_; refine pU 14 75 ?_; refine tU 15 76 (cF f1 hla) ?_; refine pU 16 77 ?_; refine pU 17 78 ?_; refine pU 18 79 ?_; refine tU 19 80 (cF f3 hlb) ?_; refine pU 20 81 ?_; refine pU 21 82 ?_; refine tU 22 83 (cF f0 hlr) ?_; refine pU 23 84 ?_; refine pU 24 85 ?_; refine dU ?_; clear hHeld; have HF := hZ (Hf.o (fun h => by
       have h1 := (h hlt).2.2.2.2 k hkj; rw [Hr.o, Har.o, Hpv.o, Hy.o, Hz.o] at h1; omega))
      go_wp2_with fail
      go_ret; exact qBC.no HF.o HB.o
    ·obtain rfl : k = j := by omega
     go_wp2_with fail
     go_roundw
     case rel =>
      refine ⟨k + 1, by omega, by go_num, ?_, hZ (fun i hi => if h9 : i < k then HI.o i h9 else fun h8 => ?_), HB⟩
      ·simp only [qD6]
       rw [List.getElem?_eq_getElem hlt, Option.getD_some, Hr.o, Hpv.o]
      ·obtain rfl : i = k := by omega
       rw [Hr.o, Hpv.o, Hz.o]; refine ⟨hrl, by omega, by omega, qHt HI.o hlt q HLq.o, fun t ht => ?_⟩; have := HA.o t ht ht
       rwa [List.getElem?_eq_getElem (show t < b.length by omega), Option.getD_some] at this
     case measure => simp [intOf]; omega
open Go.RowKit
theorem NRo.off {w : World} {x : Nw} {zs : List Int} {g o1 o2 : Nat} {s : Bool} {a : Option Addr} {n c : Nat} (h : NRo w x zs) (hn : qA1 w g) (hne : x.1 ≠ g) : NRo (st2 w g o1 o2 s a n c) x zs :=
 h.only (S := fun b => b = g) ((qAb.refl _ _).off' (.inl rfl)) (fun b e => e ▸ hn) hne
theorem NRo.offe {w w' : World} {x : Nw} {zs : List Int} {g o1 o2 : Nat} {s : Bool} {a : Option Addr} {n c : Nat} (h : NRo w x zs) (e : st2 w g o1 o2 s a n c = w') (hn : qA1 w g) (hne : x.1 ≠ g) : NRo w' x zs := e ▸ h.off hn hne
structure qIo (b : List (List Int)) (n : Nat) (v : List Int) (i : Nat) (rest : List Int) : Prop where
 len : rest.length = n
 sz : ∀ x ∈ rest, Sz (64 + i * 66) x
 iff_ : qAa (b.map vec) (vec v) ↔ qAa (b.map vec) (vec rest)
 red : ∀ j (h : j < b.length), j < i -> 0 <= vec rest (pv b[j]) /\ vec rest (pv b[j]) < vec b[j] (pv b[j])
theorem qG9 {x : Int} (h : -9223372036854775808 <= x /\ x <= 9223372036854775807) : Sz 64 x := by
 have e : (2 : Nat) ^ 64 = 18446744073709551616 := by decide
 unfold Sz; rw [e]; omega
theorem qIo.start {b : List (List Int)} {n : Nat} {v : List Int} (h : v.length = n) (hv : ∀ x ∈ v, -9223372036854775808 <= x /\ x <= 9223372036854775807) : qIo b n v 0 v :=
 ⟨h, fun x hx => qG9 (hv x hx), Iff.rfl, fun j _ h => by omega⟩
theorem qIo.step {b : List (List Int)} {n : Nat} {v rest : List Int} {i : Nat} (hn : IsN b n) (h : qIo b n v i rest) (hi : i < b.length) (hb : ∀ x ∈ b[i], -9223372036854775808 <= x /\ x <= 9223372036854775807) :
 qIo b n v (i + 1) (qCn rest b[i] (vec rest (pv b[i]) / vec b[i] (pv b[i]))) := by
 obtain ⟨q, hq⟩ := eX (vec rest (pv b[i]) / vec b[i] (pv b[i])); obtain ⟨hl, -, hp⟩ := hn.row i hi; have e : ∀ j, vec (qCn rest b[i] q) j = vec rest j - q * vec b[i] j := fun j => qDF (by rw [hl, h.len]) j; rw [hq]; refine ⟨by rw [qA9, h.len], ?_, h.iff_.trans ⟨fun h1 => ?_, fun h1 => ?_⟩, fun j hj hji => ?_⟩
 ·have h1 := qHq (y := 64 + i * 66) (z := 64) (a := rest) (b := b[i]) (q := q) h.sz (by rw [<- hq]; exact (qDP h.sz _).div (by omega)) (fun x hx => qG9 (hb x hx))
  exact fun x hx => by rw [show 64 + (i + 1) * 66 = 64 + i * 66 + (64 + 2) by omega]; exact h1 x hx
 ·exact (h1.add ((qAa.mem (List.mem_map.2 ⟨b[i], List.getElem_mem hi, rfl⟩)).smul (-q))).congr (fun j => by rw [e, Int.neg_mul]; omega)
 ·exact (h1.add ((qAa.mem (List.mem_map.2 ⟨b[i], List.getElem_mem hi, rfl⟩)).smul q)).congr (fun j => by rw [e]; omega)
 ·rw [e]
  rcases Nat.lt_or_ge j i with h1 | h1
  ·rw [qFD ((hn i hi hi).2.2.2.1 j h1), Int.mul_zero, Int.sub_zero]
   exact h.red j hj h1
  ·obtain rfl : j = i := by omega
   have hm := Int.emod_add_mul_ediv (vec rest (pv b[j])) (vec b[j] (pv b[j])); have h2 := Int.emod_nonneg (vec rest (pv b[j])) (show vec b[j] (pv b[j]) ≠ 0 by omega); have h3 := Int.emod_lt_of_pos (vec rest (pv b[j])) hp; rw [hq, Int.mul_comm] at hm; omega
theorem qEw {b : List (List Int)} {n : Nat} (hn : IsN b n) : ∀ (k i : Nat), i + k = b.length -> ∀ u : Vec, qAa ((b.drop i).map vec) u -> (∀ j (h : j < b.length), i <= j -> 0 <= u (pv b[j]) /\ u (pv b[j]) < vec b[j] (pv b[j])) -> ∀ j, u j = 0
 | 0, i, hk, u, hs, _, j => by
  rw [List.drop_eq_nil_of_le (by omega)] at hs; exact qBY hs j
 | k + 1, i, hk, u, hs, hr, j => by
  have hi : i < b.length := by omega
  rw [List.drop_eq_getElem_cons hi, List.map_cons] at hs; obtain ⟨x, w, h1, h2⟩ := qBM hs; have hw := (hn.nrm_ (b.length - (i + 1)) (i + 1) (pv b[i] + 1) (by omega) (fun hi2 => (hn (i + 1) hi2 hi2).2.2.2.1 i (by omega))).low h1 (pv b[i]) (by omega); have hp := (hn.row i hi).2.2; obtain ⟨r1, r2⟩ := hr i hi (Nat.le_refl _); rw [h2, hw, Int.add_zero] at r1 r2; have hx : x = 0 := by
   rcases Int.lt_trichotomy x 0 with h | h | h
   ·have := Int.mul_le_mul_of_nonneg_right (show x <= -1 by omega) (show 0 <= vec b[i] (pv b[i]) by omega)
    omega
   ·exact h
   ·have := Int.mul_le_mul_of_nonneg_right (show 1 <= x by omega) (show 0 <= vec b[i] (pv b[i]) by omega)
    omega
  have hu : ∀ j, u j = w j := fun j => by rw [h2, hx, Int.zero_mul, Int.zero_add]
  rw [hu]; exact qEw hn k (i + 1) (by omega) w h1 (fun j hj hij => by rw [<- hu]; exact hr j hj (by omega)) j
theorem qIo.done {b : List (List Int)} {n : Nat} {v rest : List Int} (hn : IsN b n) (h : qIo b n v b.length rest) : qAa (b.map vec) (vec v) ↔ ∀ x ∈ rest, x = 0 := by
 rw [h.iff_]; constructor
 ·intro hs x hx
  obtain ⟨j, hj, rfl⟩ := List.mem_iff_getElem.1 hx; have := qEw hn b.length 0 (by omega) (vec rest) (by simpa using hs) (fun j hj _ => h.red j hj hj) j
  rwa [qAj hj] at this
 ·intro h0
  refine qAa.zero.congr (fun j => ?_); rcases Nat.lt_or_ge j rest.length with hj | hj
  ·rw [qAj hj]; exact (h0 _ (List.getElem_mem hj)).symm
  ·rw [qAq hj]
theorem InB.iff_ {b : List (List Int)} {v rest : List Int} (h1 : b.length <= 64) (h2 : v.length <= 128) (h3 : IsN b v.length) (h : qIo b v.length v b.length rest) : InB b v ↔ ∀ x ∈ rest, x = 0 :=
 ⟨fun h9 => (h.done h3).1 h9.2.2.2, fun h0 => ⟨h1, h2, h3, (h.done h3).2 h0⟩⟩
theorem qK4 (w0 : World) (vb vv : Value) (b : List (List Int)) (v : List Int) (h : qAD w0 vb b) (hv : qAm w0 vv v) (hb : b.length <= 64) (hn : v.length <= 128) (fb : ∀ r ∈ b, ∀ x ∈ r, -9223372036854775808 <= x /\ x <= 9223372036854775807) (fv : ∀ x ∈ v, -9223372036854775808 <= x /\ x <= 9223372036854775807) : Calls Try.prog 26 #[vb, vv] w0 (qKG w0 b v) := by
 have H := hZ h; have HV := hZ hv; have HB := hZ (Below.refl w0.heap.size w0); have Fb := hZ fb; have Fv := hZ fv; obtain ⟨av, cv, rfl, q1, q2⟩ := h.form; obtain ⟨ax, cx, rfl, q3, q4⟩ := qAh.form hv; obtain ⟨n, hvn⟩ := eX v.length; have Hvn := hZ hvn; rw [hvn] at hn q3 HV; clear h hv fb fv; have g1 : ¬ (64 : Int) < (b.length : Int) := by omega
 have g2 : ¬ (128 : Int) < (n : Int) := by omega
 rw [hvn]; clear hvn
 go_enter Try.func26, Try.ntmps26
 go_wp2_with fail
 refine (qJL w0 _ b n H.o (by omega) (by omega)).mono ?_; rintro e w1 ⟨hB, t, rfl, ht⟩; have Ht := hZ ht; replace HB := hZ (HB.o.trans hB); clear hB ht; cases t
 ·skip
  go_wp2_with fail
  exact bodyPost_ret (v := .bool false) (by simp [results, Try.results26, go_sem]) rfl ⟨HB.o, false, rfl, ⟨fun h => Bool.noConfusion h, fun h => Bool.noConfusion (Ht.o.2 (Hvn.o ▸ h.2.2.1))⟩⟩
 ·skip
  have HN : Hid (IsN b n) := hZ (Ht.o.1 rfl); clear Ht
  go_wp2_with fail
  refine (qMy w1 _ v (HV.o.below HB.o) Fv.o (by rw [Hvn.o]; omega)).mono ?_; rintro e w2 ⟨u, xs, rfl, hu, hz, hB⟩; replace HB := bT HB hB; rw [Hvn.o] at hu; rcases Nat.eq_zero_or_pos n with hn0 | hn0
  ·skip
   have Hb0 : Hid (b.length = 0) := hZ (by rcases Nat.eq_zero_or_pos b.length with h9 | h9; exact h9; have := HN.o.row 0 h9; omega); obtain ⟨au, cu, rfl, -, -⟩ := hu.form; have Hn0 := hZ hn0; clear hu hz hB; have i3 : ¬ (0 : Int) < (b.length : Int) := by have := Hb0.o; omega
   have i4 : ¬ (0 : Int) < (n : Int) := by omega
   clear hn0
   go_wp2_with fail
   go_loopw [7, 6] (fun iv xv wr => iv = .int .i64 0 /\ xv = .slice au n cu /\ Hid (Below w0.heap.size w0 wr)) (fun _ _ _ => 0)
   case atStart => exact ⟨rfl, rfl, HB⟩
   case round =>
    clear HB; obtain ⟨rfl, rfl, HB⟩ := hrel; obtain ⟨w2, rfl⟩ := eY wr
    go_wp2_with fail
    go_loopw [11] (fun iv wr => iv = .int .i64 0 /\ Hid (Below w0.heap.size w0 wr)) (fun _ _ => 0)
    case atStart => exact ⟨rfl, HB⟩
    case round =>
     clear HB; obtain ⟨rfl, HB⟩ := hrel; obtain ⟨w2, rfl⟩ := eY wr
     go_wp2_with fail
     exact bodyPost_ret (v := .bool true) (by simp [results, Try.results26, go_sem]) rfl ⟨HB.o, true, rfl, ⟨fun _ => (InB.iff_ (by omega) (by rw [Hvn.o]; omega) (Hvn.o ▸ HN.o) (rest := v) (by have := qIo.start (b := b) (v := v) rfl Fv.o; rwa [<- Hb0.o] at this)).2 (fun x hx => by have := List.length_pos_of_mem hx; have := Hvn.o; have := Hn0.o; omega), fun _ => rfl⟩⟩
  ·skip
   have HI : Hid (qIo b n v 0 v) := hZ (qIo.start Hvn.o Fv.o); obtain ⟨g0, c0, rfl, hc0, hc1, -, -⟩ := hu.some_ hn0; have HR := hZ (hu.nro hz); clear hu hz hB
   go_wp2_with fail
   go_loopw [7, 6] (fun iv xv wr => ∃ (i g c : Nat) (r : List Int), i <= b.length /\ n <= c /\ c <= 9223372036854775807 /\ iv = .int .i64 i /\ xv = .slice (some ⟨g, 0, none⟩) n c /\ Hid (qIo b n v i r) /\ Hid (NRo wr (g, 0, c) r) /\ Hid (Below w0.heap.size w0 wr)) (fun iv _ _ => b.length - (intOf iv).toNat)
   case atStart => exact ⟨0, g0, c0, v, by omega, hc0, hc1, rfl, rfl, HI, HR, HB⟩
   case round =>
    clear HB HI HR; obtain ⟨i, g, c, r, hi, hc0, hc1, rfl, rfl, HI, HR, HB⟩ := hrel; obtain ⟨w2, rfl⟩ := eY wr; by_cases hib : i < b.length
    ·skip
     obtain ⟨bb, cap, ab, cb, hv9, hbb, n1, HR0, k1, k2⟩ := H.o.at_ i hib; injection hv9 with f1 f2 f3; subst f1; clear f2 f3; have HN0 := hZ n1; replace n1 := (HB.o.cell (p := ⟨bb, i, none⟩) hbb).trans n1; have i1 : (0 : Int) <= (i : Int) := by omega
     have i2 : (i : Int) < (b.length : Int) := by omega
     obtain ⟨l, hl⟩ := eX (b[i]); have Hl := hZ hl; have HRow := hZ (hl ▸ HN.o.row i hib); have Fl : Hid (∀ x ∈ l, -9223372036854775808 <= x /\ x <= 9223372036854775807) := hZ (hl ▸ Fb.o _ (List.getElem_mem hib)); rw [hl] at n1 HR0 k1 HN0; have HRb := hZ HR0; clear HR0 hl k1 k2; have hll : l.length = n := HRow.o.1; rw [hll] at n1 HN0; obtain ⟨p, hp⟩ := eX (pv l); have Hpv := hZ hp; have hpn : p < n := hp ▸ HRow.o.2.1; have HPz : Hid (0 < vec l p) := hZ (hp ▸ HRow.o.2.2); have HPl : Hid (∀ t, t < p -> vec l t = 0) := hZ (fun t ht => qFD (hp ▸ ht)); clear hp; obtain ⟨br, e9, -, hbr, -⟩ := qB1 HRb.o 0 (by omega); subst e9; have Hll := hZ hll
     skip
     clear hll
     go_wp2_with fail
     go_loopw [8] (fun qv wr => ∃ q : Nat, q <= p /\ qv = .int .i64 q /\ w2 = wr) (fun qv _ => p - (intOf qv).toNat)
     case atStart => exact ⟨0, by omega, rfl, rfl⟩
     case round =>
      obtain ⟨q, hq, rfl, rfl⟩ := hrel; have t4 : (0 : Int) <= (q : Int) := by omega
      have t5 : (q : Int) < (n : Int) := by omega
      have hql : q < l.length := by rw [Hll.o]; omega
      obtain ⟨b8, e8, -, h8, e0⟩ := qB1 HRb.o q hql; injection e8 with e8; injection e8 with e8 _ _; subst e8; replace e0 := (HB.o.cell (p := ⟨br, q, none⟩) hbr).trans e0; obtain ⟨y, hy⟩ := eX (vec l q); rw [hy] at e0; have Hy := hZ hy; clear hy h8; by_cases hqp : q < p
      ·skip
       have hy0 : y = 0 := Hy.o.symm.trans (HPl.o q hqp); subst hy0
       go_wp2_with fail
       go_roundw
       case rel => exact ⟨q + 1, by omega, by go_num, by trivial⟩
       case measure => simp [intOf]; omega
      ·skip
       have hqe : q = p := by omega
       have hyp : 0 < y := by have := HPz.o; rwa [<- hqe, Hy.o] at this
       have u1 : (y == 0) = false := by rw [beq_eq_false_iff_ne]; omega
       have Hqp := hZ hqe; clear hqe; have hqr : q < r.length := by rw [HI.o.len]; omega
       go_wp2_with fail
       clear u1; obtain ⟨x, hx⟩ := eX (vec r q); have Hx := hZ hx; have HCx := hZ (HR.o.get q hqr); rw [<- qAj hqr, hx] at HCx; have Sx : Hid (Sz (64 + i * 66) x) := hZ (hx ▸ qDP HI.o.sz q); have hy1 := Fl.o y (by rw [<- Hy.o, qAj hql]; exact List.getElem_mem hql); have Sy : Hid (Sz 64 y) := hZ (qG9 hy1); clear hx; have hsz : 64 + i * 66 <= 6000000 := by omega
       have HBs := hZ HB.o.size; have Hlg := hZ HR.o.lt; have HJ := hZ (Below.refl w2.heap.size w2); obtain ⟨w3, hwd⟩ := eX w2.drew; have hB := dB hwd; replace HR := HR.b hB; replace HB := bT HB hB; replace HJ := bT HJ hB; clear hB; have HBr : Hid (qAb (fun b => w3.heap.size <= b) w3 w3) := hZ (qAb.refl _ _); refine qAs [18, 19] (fun w' => qAb (fun b => w3.heap.size <= b) w3 w') (by kernel_rfl) (by rw [hwd]; exact qAb.refl _ _) (fun hHeld => ?_); rw [hwd] at hHeld ⊢; clear hwd; obtain ⟨s_x, a_x, n_x, c_x, d0x, d1x, h_x⟩ := HCx.o; simp only [Nat.zero_add] at d0x d1x; have hlg := HR.o.lt
       skip
       replace d0x := (HJ.o.cell (p := ⟨g, q * 2, none⟩) Hlg.o).trans d0x; replace d1x := (HJ.o.cell (p := ⟨g, q * 2 + 1, none⟩) Hlg.o).trans d1x; replace n1 := (HJ.o.cell (p := ⟨bb, i, none⟩) (Nat.lt_of_lt_of_le hbb HBs.o)).trans n1; replace e0 := (HJ.o.cell (p := ⟨br, q, none⟩) (Nat.lt_of_lt_of_le hbr HBs.o)).trans e0; have Vx := hZ (h_x.blw HJ.o); have m0 := HR.o.lt; have m1 := Nat.lt_of_lt_of_le hbb HB.o.size; have m2 := Nat.lt_of_lt_of_le hbr HB.o.size; clear h_x; refine pU 0 47 ?_; refine pU 1 48 ?_; refine pU 2 49 ?_; refine tV 3 50 (cT (Nat.not_le_of_lt m0) d0x m0) (cT (Nat.not_le_of_lt m0) d1x m0) ?_; refine pU 4 51 ?_; refine pU 5 52 ?_; refine pU 6 53 ?_; refine tU 7 54 (cT (Nat.not_le_of_lt m1) n1 m1) ?_; refine pU 8 55 ?_; refine pU 9 56 ?_; refine tU 10 57 (cT (Nat.not_le_of_lt m2) e0 m2) ?_; clear d0x d1x m0 m1 m2 n1 e0; have HJs : Hid (w2.heap.size <= w3.heap.size) := hZ HJ.o.size; refine qLl [11, 12, 16, 17] [13, 14, 15] [(12, 11), (13, 12), (14, 13), (15, 13)] 7 (fun t ds p a w => ∃ v58 v59 v9 v10 v46 v60 v61 b9 b10, a = ⟨(((((((t).setIfInBounds 58 v58).setIfInBounds 59 v59).setIfInBounds 9 v9).setIfInBounds 10 v10).setIfInBounds 46 v46).setIfInBounds 60 v60).setIfInBounds 61 v61, ds⟩ /\ Hid (Below w3.heap.size w3 w) /\ (p 11 = true -> Hid (qAH w v58 y)) /\ (p 12 = true -> Hid (qIu w v59 x y)) /\ (p 16 = true -> v9 = .pointer (some ⟨b9, 0, none⟩) /\ Hid (Bn w b9 0) /\ Hid (w3.heap.size <= b9)) /\ (p 17 = true -> v10 = .pointer (some ⟨b10, 0, none⟩) /\ Hid (Bn w b10 0) /\ Hid (w3.heap.size <= b10)) /\ (p 13 = true -> Hid (qIu w v46 x y)) /\ (p 14 = true -> Hid (qAH w v60 (x / y))) /\ (p 15 = true -> Hid (qAH w v61 (x % y))) /\ (p 16 = true -> p 17 = true -> b9 ≠ b10)) ?_ (by kernel_rfl) (by decide) rfl rfl (by kernel_rfl) ⟨?_, ?_, ?_, ?_, trivial⟩ ⟨?_, ?_, ?_, trivial⟩ ?_
       ·exact ⟨_, _, _, _, _, _, _, 0, 0, by first | rfl | (simp only [sX1, sX2, sX3]; rfl), hZ (Below.refl _ _), nofun, nofun, nofun, nofun, nofun, nofun, nofun, nofun⟩
       ·skip
        intro p a w4 hJ hp; obtain ⟨v58, v59, v9, v10, v46, v60, v61, b9, b10, rfl, HBw, g11, g12, g16, g17, g13, g14, g15, n1617⟩ := hJ; simp only [sX1, sX2, sX3]; refine qAW 11 rfl (fun K hK => ?_); go_simp; refine (nof (w := w4) hy1.1 hy1.2).mono ?_; rintro e w5 ⟨s_z, a_z, n_z, c_z, rfl, h_z, hB⟩; exact hK.out _ _ (HBr.o.trans (qAb.of_below (HBw.o.trans (hB.mono HBw.o.size)))) ⟨_, v59, v9, v10, v46, v60, v61, b9, b10, by first | (simp only [Act.put]; done) | (simp only [sX1, sX2, sX3]; rfl), hZ (HBw.o.trans (hB.mono HBw.o.size)), fun _ => hZ (h_z), fun h => hZ ((g12 h).o.blw hB), fun h => ⟨(g16 h).1, hZ ((g16 h).2.1.o.blw hB), (g16 h).2.2⟩, fun h => ⟨(g17 h).1, hZ ((g17 h).2.1.o.blw hB), (g17 h).2.2⟩, fun h => hZ ((g13 h).o.blw hB), fun h => hZ ((g14 h).o.blw hB), fun h => hZ ((g15 h).o.blw hB), n1617⟩
       ·skip
        intro p a w4 hJ hp; obtain ⟨v58, v59, v9, v10, v46, v60, v61, b9, b10, rfl, HBw, g11, g12, g16, g17, g13, g14, g15, n1617⟩ := hJ; simp only [sX1, sX2, sX3]; refine qAW 12 rfl (fun K hK => ?_); have Vy := g11 (hp 11 (by simp)); obtain ⟨s_y, a_y, n_y, c_y, rfl⟩ := Vy.o.form2; replace Vx := hZ (Vx.o.blw HBw.o); go_simp; refine (qMz (w := w4) Vx.o Vy.o (by omega) Sx.o Sy.o hsz (by omega)).mono ?_; rintro e w5 ⟨s_u, a_u, n_u, c_u, s_t, a_t, n_t, c_t, rfl, h_u, h_t, hB⟩; exact hK.out _ _ (HBr.o.trans (qAb.of_below (HBw.o.trans (hB.mono HBw.o.size)))) ⟨_, _, v9, v10, v46, v60, v61, b9, b10, by first | (simp only [Act.put]; done) | (simp only [sX1, sX2, sX3]; rfl), hZ (HBw.o.trans (hB.mono HBw.o.size)), fun h => hZ ((g11 h).o.blw hB), fun _ => hZ (⟨_, _, _, _, _, _, _, _, rfl, h_u, h_t⟩), fun h => ⟨(g16 h).1, hZ ((g16 h).2.1.o.blw hB), (g16 h).2.2⟩, fun h => ⟨(g17 h).1, hZ ((g17 h).2.1.o.blw hB), (g17 h).2.2⟩, fun h => hZ ((g13 h).o.blw hB), fun h => hZ ((g14 h).o.blw hB), fun h => hZ ((g15 h).o.blw hB), n1617⟩
       ·skip
        intro p a w4 hJ hp; obtain ⟨v58, v59, v9, v10, v46, v60, v61, b9, b10, rfl, HBw, g11, g12, g16, g17, g13, g14, g15, n1617⟩ := hJ; simp only [sX1, sX2, sX3]; refine qAW 16 rfl (fun K hK => ?_); go_simp; obtain ⟨w5, hw⟩ := eX (w4.alloc (.cells #[.bool false, .slice none 0 0] 61)); have hB := aB hw; have hx : Hid (Bn w5 w4.heap.size 0) := hZ (by rw [<- hw]; exact Bn.new (qCb _)); rw [hw]; clear hw; exact hK.out _ _ (HBr.o.trans (qAb.of_below (HBw.o.trans (hB.mono HBw.o.size)))) ⟨v58, v59, _, v10, v46, v60, v61, w4.heap.size, b10, by first | (simp only [Act.put]; done) | (simp only [sX1, sX2, sX3]; rfl), hZ (HBw.o.trans (hB.mono HBw.o.size)), fun h => hZ ((g11 h).o.blw hB), fun h => hZ ((g12 h).o.blw hB), fun _ => ⟨rfl, hx, hZ HBw.o.size⟩, fun h => ⟨(g17 h).1, hZ ((g17 h).2.1.o.blw hB), (g17 h).2.2⟩, fun h => hZ ((g13 h).o.blw hB), fun h => hZ ((g14 h).o.blw hB), fun h => hZ ((g15 h).o.blw hB), fun _ h => by have := (g17 h).2.1.o.lt; omega⟩
       ·skip
        intro p a w4 hJ hp; obtain ⟨v58, v59, v9, v10, v46, v60, v61, b9, b10, rfl, HBw, g11, g12, g16, g17, g13, g14, g15, n1617⟩ := hJ; simp only [sX1, sX2, sX3]; refine qAW 17 rfl (fun K hK => ?_); go_simp; obtain ⟨w5, hw⟩ := eX (w4.alloc (.cells #[.bool false, .slice none 0 0] 61)); have hB := aB hw; have hx : Hid (Bn w5 w4.heap.size 0) := hZ (by rw [<- hw]; exact Bn.new (qCb _)); rw [hw]; clear hw; exact hK.out _ _ (HBr.o.trans (qAb.of_below (HBw.o.trans (hB.mono HBw.o.size)))) ⟨v58, v59, v9, _, v46, v60, v61, b9, w4.heap.size, by first | (simp only [Act.put]; done) | (simp only [sX1, sX2, sX3]; rfl), hZ (HBw.o.trans (hB.mono HBw.o.size)), fun h => hZ ((g11 h).o.blw hB), fun h => hZ ((g12 h).o.blw hB), fun h => ⟨(g16 h).1, hZ ((g16 h).2.1.o.blw hB), (g16 h).2.2⟩, fun _ => ⟨rfl, hx, hZ HBw.o.size⟩, fun h => hZ ((g13 h).o.blw hB), fun h => hZ ((g14 h).o.blw hB), fun h => hZ ((g15 h).o.blw hB), fun h _ => by have := (g16 h).2.1.o.lt; omega⟩
       ·skip
        intro p a w4 hJ hp; obtain ⟨v58, v59, v9, v10, v46, v60, v61, b9, b10, rfl, HBw, g11, g12, g16, g17, g13, g14, g15, n1617⟩ := hJ; have Vd := g12 (hp 12 (by simp)); obtain ⟨s_q, a_q, n_q, c_q, s_r, a_r, n_r, c_r, rfl, h_q, h_r⟩ := Vd.o; simp only [sX1, sX2, sX3]; refine qCl 13 46 (v := ?_) rfl rfl (fun _ _ _ h => h) (by rfl) ?_ ?_; rotate_left
        ·(intro w; go_simp; first | done | with_reducible rfl)
        simp only [sX1, sX2, sX3]; exact ⟨v58, _, v9, v10, _, v60, v61, b9, b10, by first | rfl | (simp only [sX1, sX2, sX3]; rfl), HBw, g11, g12, g16, g17, fun _ => hZ (⟨_, _, _, _, _, _, _, _, rfl, h_q, h_r⟩), g14, g15, n1617⟩
       ·skip
        intro p a w4 hJ hp; obtain ⟨v58, v59, v9, v10, v46, v60, v61, b9, b10, rfl, HBw, g11, g12, g16, g17, g13, g14, g15, n1617⟩ := hJ; have Vm := g13 (hp 13 (by simp)); obtain ⟨s_i, a_i, n_i, c_i, s_j, a_j, n_j, c_j, rfl, h_i, h_j⟩ := Vm.o; simp only [sX1, sX2, sX3]; refine qCl 14 60 (v := ?_) rfl rfl (fun _ _ _ h => h) (by rfl) ?_ ?_; rotate_left
        ·(intro w; go_simp; first | done | with_reducible rfl)
        simp only [sX1, sX2, sX3]; exact ⟨v58, v59, v9, v10, _, _, v61, b9, b10, by first | rfl | (simp only [sX1, sX2, sX3]; rfl), HBw, g11, g12, g16, g17, g13, fun _ => hZ (h_i), g15, n1617⟩
       ·skip
        intro p a w4 hJ hp; obtain ⟨v58, v59, v9, v10, v46, v60, v61, b9, b10, rfl, HBw, g11, g12, g16, g17, g13, g14, g15, n1617⟩ := hJ; have Vm := g13 (hp 13 (by simp)); obtain ⟨s_i, a_i, n_i, c_i, s_j, a_j, n_j, c_j, rfl, h_i, h_j⟩ := Vm.o; simp only [sX1, sX2, sX3]; refine qCl 15 61 (v := ?_) rfl rfl (fun _ _ _ h => h) (by rfl) ?_ ?_; rotate_left
        ·(intro w; go_simp; first | done | with_reducible rfl)
        simp only [sX1, sX2, sX3]; exact ⟨v58, v59, v9, v10, _, v60, _, b9, b10, by first | rfl | (simp only [sX1, sX2, sX3]; rfl), HBw, g11, g12, g16, g17, g13, g14, fun _ => hZ (h_j), n1617⟩
       ·skip
        intro p a w4 hJ hp; obtain ⟨v58, v59, v9, v10, v46, v60, v61, b9, b10, rfl, HBw, g11, g12, g16, g17, g13, g14, g15, n1617⟩ := hJ; have Vy := g11 (hp 11 (by simp)); obtain ⟨s_y, a_y, n_y, c_y, rfl⟩ := Vy.o.form2; have Vd := g12 (hp 12 (by simp)); obtain ⟨s_q, a_q, n_q, c_q, s_r, a_r, n_r, c_r, rfl, h_q, h_r⟩ := Vd.o; obtain ⟨rfl, Fq, hge_b9⟩ := g16 (hp 16 (by simp)); replace hge_b9 : w3.heap.size <= b9 := Nat.le_trans HBr.o.size hge_b9.o; obtain ⟨rfl, Fr, hge_b10⟩ := g17 (hp 17 (by simp)); replace hge_b10 : w3.heap.size <= b10 := Nat.le_trans HBr.o.size hge_b10.o; have Vm := g13 (hp 13 (by simp)); obtain ⟨s_i, a_i, n_i, c_i, s_j, a_j, n_j, c_j, rfl, h_i, h_j⟩ := Vm.o; have Vk := g14 (hp 14 (by simp)); obtain ⟨s_k, a_k, n_k, c_k, rfl⟩ := Vk.o.form2; have Vl := g15 (hp 15 (by simp)); obtain ⟨s_l, a_l, n_l, c_l, rfl⟩ := Vl.o.form2; replace n1617 := n1617 (hp 16 (by simp)) (hp 17 (by simp)); clear g11 g12 g16 g17 g13 g14 g15; replace HBr := hZ (HBr.o.trans (qAb.of_below HBw.o)); have hB := HBw.o; simp only [sX1, sX2, sX3]; clear HBw; replace HR := HR.b hB; replace Vx := Vx.b hB; replace HB := bT HB hB; replace HJ := bT HJ hB; clear hB; obtain ⟨s_9, a_9, n_9, c_9, t_9, -⟩ := Fq.o; have e0 := t_9.cell0; have e1 := t_9.cell1; have e2 := t_9.frozen 0; have e3 := t_9.frozen 1; clear t_9; have hn9 : qA1 w4 (b9) := Fq.o.noInt; obtain ⟨w5, hw⟩ := eX ((w4.setCell ⟨b9, 0, none⟩ (.bool s_k)).setCell ⟨b9, 1, none⟩ (.slice a_k n_k c_k)); have hw2 : st2 w4 (b9) (0) (1) s_k a_k n_k c_k = w5 := hw; replace Fq := hZ (Bn.put Fq.o Vk.o); rw [hw2] at Fq; replace HR := hZ (HR.o.offe hw2 hn9 (by have := Hlg.o; have := HJs.o; (try simp only []); omega)); replace Vx := hZ (Vx.o.offe hw2 hn9); replace Fr := hZ (Fr.o.offe hw2 hn9 (by have := Hlg.o; have := HJs.o; (try simp only []); omega)); replace Vk := hZ (Vk.o.offe hw2 hn9); replace Vl := hZ (Vl.o.offe hw2 hn9); replace HB := hZ (bO hw2 HB.o (by have := HJs.o; have := HBs.o; omega)); replace HJ := hZ (bO hw2 HJ.o (by have := HJs.o; have := HBs.o; omega)); clear hw2 hn9; refine lU 18 fun K hK => ?_; go_simp
        try rw [hw]
        refine hK.out _ _ ?_; clear hK K
        try simp only [Act.put, sX1, sX2, sX3]
        clear hw e0 e1 e2 e3; obtain ⟨s_9, a_9, n_9, c_9, t_9, -⟩ := Fr.o; have e0 := t_9.cell0; have e1 := t_9.cell1; have e2 := t_9.frozen 0; have e3 := t_9.frozen 1; clear t_9; have hn9 : qA1 w5 (b10) := Fr.o.noInt; obtain ⟨w6, hw⟩ := eX ((w5.setCell ⟨b10, 0, none⟩ (.bool s_l)).setCell ⟨b10, 1, none⟩ (.slice a_l n_l c_l)); have hw2 : st2 w5 (b10) (0) (1) s_l a_l n_l c_l = w6 := hw; replace Fr := hZ (Bn.put Fr.o Vl.o); rw [hw2] at Fr; replace HR := hZ (HR.o.offe hw2 hn9 (by have := Hlg.o; have := HJs.o; (try simp only []); omega)); replace Vx := hZ (Vx.o.offe hw2 hn9); replace Fq := hZ (Fq.o.offe hw2 hn9 (by have := Hlg.o; have := HJs.o; (try simp only []); omega)); replace Vk := hZ (Vk.o.offe hw2 hn9); replace Vl := hZ (Vl.o.offe hw2 hn9); replace HB := hZ (bO hw2 HB.o (by have := HJs.o; have := HBs.o; omega)); replace HJ := hZ (bO hw2 HJ.o (by have := HJs.o; have := HBs.o; omega)); clear hw2 hn9; refine lU 19 fun K hK => ?_; go_simp
        try rw [hw]
        refine hK.out _ _ ?_; clear hK K
        try simp only [Act.put, sX1, sX2, sX3]
        clear hw e0 e1 e2 e3; refine dU ?_; clear hHeld; clear Vx Fr Vl Vk Vy Vd Vm n1617
        try clear h_q h_r h_i h_j
        have Sq : Hid (Sz (64 + i * 66 + 1) (x / y)) := hZ (Sx.o.div (by omega)); obtain ⟨z, hz⟩ := eX (x / y); rw [hz] at Fq Sq; have Hz := hZ hz; clear hz HJ
        go_wp2_with fail
        have HBt := hZ HB.o.size; have Hlg2 := hZ (And.intro HR.o.lt Fq.o.lt); have HK := hZ (Below.refl w6.heap.size w6); obtain ⟨w7, hwd⟩ := eX w6.drew; have hB := dB hwd; replace HR := HR.b hB; replace Fq := Fq.b hB; replace HB := bT HB hB; replace HK := bT HK hB; clear hB; have HBr : Hid (qAb (fun b => False) w7 w7) := hZ (qAb.refl _ _); refine qAs [] (fun w' => qAb (fun b => False) w7 w') (by kernel_rfl) (by rw [hwd]; exact qAb.refl _ _) (fun hHeld => ?_); rw [hwd] at hHeld ⊢; clear hwd; have n1 := (HB.o.cell (p := ⟨bb, i, none⟩) hbb).trans HN0.o; have HRc := hZ HRb.o
        skip
        have m1 := Nat.lt_of_lt_of_le hbb HB.o.size; obtain ⟨s_k, a_k, n_k, c_k, t_k, h_k⟩ := Fq.o; have d0k := t_k.cell0; have d1k := t_k.cell1; have m2 := t_k.lt; have Vk := hZ h_k; clear t_k h_k; refine pU 0 62 ?_; refine pU 1 63 ?_; refine pU 2 64 ?_; refine pU 3 65 ?_; refine tU 4 66 (cF n1 m1) ?_; refine tV 6 68 (cF d0k m2) (cF d1k m2) ?_; clear n1 d0k d1k m1 m2; refine eU 5 fun K hK => ?_; go_simp; have HCall := hZ (qMy w7 _ l (HRc.o.below HB.o) Fl.o (by rw [Hll.o]; omega)); rw [Hll.o] at HCall; refine HCall.o.mono ?_; rintro e w8 ⟨u, xs, rfl, hu, hz, hB⟩; obtain ⟨gu, cu, rfl, -, -, -, -⟩ := hu.some_ hn0; have HRu := hZ (hu.nro hz); clear hu hz HCall; replace HBr := oT HBr hB; replace HR := HR.b hB; replace Fq := Fq.b hB; replace Vk := Vk.b hB; replace HB := bT HB hB; replace HK := bT HK hB; clear hB; refine hK.out _ _ HBr.o (fun hHeld => ?_); clear hK K
        try simp only [Act.put, sX1, sX2, sX3]
        refine eU 7 fun K hK => ?_; go_simp; refine (qK3 w8 g 0 c gu 0 cu n 10000 s_k a_k n_k c_k z r l HR.o HRu.o HI.o.len Hll.o hn0 (by omega) Vk.o (fun x hx => (HI.o.sz x hx).mono (by omega)) (fun x hx => (qG9 (Fl.o x hx)).mono (by omega)) (Sq.o.mono (by omega)) (by omega)).mono ?_; rintro e w9 ⟨g9, c9, rfl, hr9, hge9, hc9, hc92, hB⟩; have HR9 := hZ hr9; replace HBr := oT HBr hB; clear hr9 hge9; clear HRu Vk Fq; replace HR := HR.b hB; replace HB := bT HB hB; replace HK := bT HK hB; clear hB; refine hK.out _ _ HBr.o (fun hHeld => ?_); clear hK K
        try simp only [Act.put, sX1, sX2, sX3]
        have HIn : Hid (qIo b n v (i + 1) (qCn r l z)) := hZ (by have h9 := HI.o.step HN.o hib (by rw [Hl.o]; exact Fl.o); rw [Hl.o, Hpv.o, <- Hqp.o, Hx.o, Hy.o, Hz.o] at h9; exact h9); clear HI HR; refine pU 8 6 ?_; refine dU ?_; clear hHeld
        go_wp2_with fail
        go_roundw
        case rel => exact ⟨i + 1, g9, c9, qCn r l z, by omega, hc9, hc92, by go_num, rfl, HIn, HR9, HB⟩
        case measure => simp [intOf]; omega
    ·skip
     have hie : i = b.length := by omega
     have HF := hZ (InB.iff_ (v := v) (rest := r) (by omega) (by rw [Hvn.o]; omega) (Hvn.o ▸ HN.o) (by have := HI.o; rwa [hie, <- Hvn.o] at this)); have Hrn := hZ HI.o.len; have i3 : ¬ (i : Int) < (b.length : Int) := by omega
     clear hie HI
     go_wp2_with fail
     clear i3
     go_loopw [11] (fun jv wr => ∃ j : Nat, j <= n /\ jv = .int .i64 j /\ Hid (∀ t (h : t < r.length), t < j -> r[t] = 0) /\ Hid (NRo wr (g, 0, c) r) /\ Hid (Below w0.heap.size w0 wr)) (fun jv _ => n - (intOf jv).toNat)
     case atStart => exact ⟨0, by omega, rfl, hZ (fun t h h1 => by omega), HR, HB⟩
     case round =>
      clear HR HB; obtain ⟨j, hj, rfl, HZ, HR, HB⟩ := hrel; obtain ⟨w2, rfl⟩ := eY wr; by_cases hjn : j < n
      ·skip
       have j1 : (0 : Int) <= (j : Int) := by omega
       have j2 : (j : Int) < (n : Int) := by omega
       have hjr : j < r.length := by rw [Hrn.o]; exact hjn
       obtain ⟨s_x, a_x, n_x, c_x, d0x, d1x, h_x⟩ := HR.o.get j hjr; simp only [Nat.zero_add] at d0x d1x; obtain ⟨x, hx⟩ := eX (r[j]); rw [hx] at h_x; have Hx := hZ hx; have Vx := hZ h_x; clear hx h_x
       go_wp2_with fail
       clear d0x d1x; refine (qK2 w2 s_x a_x n_x c_x x Vx.o).mono ?_; rintro e w3 ⟨rfl, hB⟩; replace HB := bT HB hB; replace HR := HR.b hB; clear hB Vx; by_cases hx0 : x = 0
       ·skip
        rw [decide_eq_true hx0]; have Hx0 : Hid (r[j] = 0) := hZ (Hx.o.trans hx0); clear hx0
        go_wp2_with fail
        go_roundw
        case rel => exact ⟨j + 1, by omega, by go_num, hZ (fun t h h1 => (Nat.lt_or_ge t j).elim (fun e => HZ.o t h e) (fun e => (show t = j by omega) ▸ Hx0.o)), HR, HB⟩
        case measure => simp [intOf]; omega
       ·skip
        rw [decide_eq_false hx0]; have Hx0 : Hid (r[j] ≠ 0) := hZ (fun e => hx0 (Hx.o.symm.trans e)); clear hx0
        go_wp2_with fail
        exact bodyPost_ret (v := .bool false) (by simp [results, Try.results26, go_sem]) rfl ⟨HB.o, false, rfl, ⟨fun h => Bool.noConfusion h, fun h => absurd (HF.o.1 h _ (List.getElem_mem hjr)) Hx0.o⟩⟩
      ·skip
       obtain rfl : j = n := by omega
       go_wp2_with fail
       exact bodyPost_ret (v := .bool true) (by simp [results, Try.results26, go_sem]) rfl ⟨HB.o, true, rfl, ⟨fun _ => HF.o.2 (fun x hx => by obtain ⟨t, ht, rfl⟩ := List.mem_iff_getElem.1 hx; exact HZ.o t ht (by have := Hrn.o; omega)), fun _ => rfl⟩⟩
open Go.RowKit
open Go.RowKit
def qHz (v : List Int) (m : List (List Int)) : Nat -> Nat -> Int
 | 0, _ => 0
 | i + 1, k => IntKind.i64.wrap (qHz v m i k + IntKind.i64.wrap (vec v i * ent m i k))
theorem qEN (z : Int) : -9223372036854775808 <= IntKind.i64.wrap z /\ IntKind.i64.wrap z <= 9223372036854775807 := by
 rw [IntKind.wrap_i64]; omega
theorem qJ7 (v : List Int) (m : List (List Int)) : ∀ i k, -9223372036854775808 <= qHz v m i k /\ qHz v m i k <= 9223372036854775807
 | 0, _ => by simp [qHz]
 | i + 1, k => qEN _
theorem qI9 (v : List Int) (m : List (List Int)) (k : Nat) : qHz v m 0 k = 0 := rfl
theorem qJa (v : List Int) (m : List (List Int)) (j k : Nat) (h : j < m.length) : qHz v m (j + 1) k = IntKind.i64.wrap (qHz v m j k + IntKind.i64.wrap (vec v j * vec m[j] k)) := by
 show IntKind.i64.wrap (qHz v m j k + IntKind.i64.wrap (vec v j * ent m j k)) = _
 unfold ent; rw [List.getElem?_eq_getElem h, Option.getD_some]
def qCY (v : List Int) (m : List (List Int)) : List Int := (List.range (qAM m)).map (fun k => qHz v m m.length k)
theorem qDk (v : List Int) (m : List (List Int)) : (qCY v m).length = qAM m := by simp [qCY]
def qGm (v : List Int) (m : List (List Int)) (i k : Nat) : List Int := (List.range (qAM m)).map (fun t => qHz v m (if t < k then i + 1 else i) t)
theorem qBs (v : List Int) (m : List (List Int)) (i k : Nat) : (qGm v m i k).length = qAM m := by simp [qGm]
theorem qCw (v : List Int) (m : List (List Int)) (i k t : Nat) (h : t < qAM m) : (qGm v m i k)[t]'(by rw [qBs]; exact h) = qHz v m (if t < k then i + 1 else i) t := by simp [qGm]
theorem qIR (v : List Int) (m : List (List Int)) : qGm v m 0 0 = List.replicate (qAM m) 0 := by
 refine List.ext_getElem (by simp [qBs]) (fun t h1 h2 => ?_); rw [qBs] at h1; rw [qCw v m 0 0 t h1, if_neg (by omega), qI9]; simp
theorem qIT (v : List Int) (m : List (List Int)) (i : Nat) : qGm v m i (qAM m) = qGm v m (i + 1) 0 := by
 refine List.ext_getElem (by simp [qBs]) (fun t h1 h2 => ?_); rw [qBs] at h1; rw [qCw v m _ _ t h1, qCw v m _ _ t h1, if_pos h1, if_neg (by omega)]
theorem qFN (v : List Int) (m : List (List Int)) : qGm v m m.length 0 = qCY v m := by
 refine List.ext_getElem (by simp [qBs, qDk]) (fun t h1 h2 => ?_); rw [qBs] at h1; rw [qCw v m _ _ t h1, if_neg (by omega)]; simp [qCY]
theorem qIS (v : List Int) (m : List (List Int)) (i k : Nat) (hk : k < qAM m) : (qGm v m i k).set k (qHz v m (i + 1) k) = qGm v m i (k + 1) := by
 refine List.ext_getElem (by simp [qBs]) (fun t h1 h2 => ?_); rw [qBs] at h2; rw [List.getElem_set]; by_cases e : k = t
 ·subst e
  rw [if_pos rfl, qCw v m _ _ k h2, if_pos (by omega)]
 ·rw [if_neg e, qCw v m _ _ t h2, qCw v m _ _ t h2]
  by_cases e2 : t < k
  ·rw [if_pos e2, if_pos (by omega)]
  ·rw [if_neg e2, if_neg (by omega)]
theorem qHX (v : List Int) (m : List (List Int)) : ∀ x ∈ qCY v m, -9223372036854775808 <= x /\ x <= 9223372036854775807 := by
 intro x hx; obtain ⟨k, _, rfl⟩ := List.mem_map.1 hx; exact qJ7 _ _ _ _
theorem qGz (w0 : World) (vv vm : Value) (v : List Int) (m : List (List Int)) (h : qAD w0 vm m) (hv : qAm w0 vv v) (hl : v.length = m.length) (hc : ∀ r ∈ m, r.length = qAM m) (hm : m.length <= 1000) (hn : qAM m <= 1000) :
 Calls Try.prog 22 #[vv, vm] w0 fun e w' => Below w0.heap.size w0 w' /\ ∃ u, e = .returned u /\ qAm w' u (qCY v m) := by
 have H := hZ h; have HV := hZ hv; have HB := hZ (Below.refl w0.heap.size w0); have HC := hZ hc; obtain ⟨av, cv, rfl, q1, q2⟩ := h.form; obtain ⟨bv, dv, rfl, q3, q4⟩ := qAh.form hv; clear h hv hc; obtain ⟨n, hnn⟩ := eX (qAM m); have Hn := hZ hnn; rw [hnn] at hn; clear hnn; by_cases h0 : m.length = 0
 ·have hv0 : v.length = 0 := by omega
  have hm0 : m = [] := List.eq_nil_of_length_eq_zero h0; have z1 : ¬ (0 : Int) < (m.length : Int) := by omega
  have z2 : ¬ 0 < m.length := by omega
  have z3 : ¬ (0 : Int) < (v.length : Int) := by omega
  have hn0 : n = 0 := by rw [<- Hn.o, hm0]; rfl
  subst hn0
  go_enter Try.func22, Try.ntmps22
  go_wp2_with (at_make; refine qAQ rfl rfl 0 rfl rfl rfl rfl (by omega) ?_)
  intro w1 h_9 hB hlt9
  go_wp2_with fail
  go_loopw [7] (fun i wr => i = .int .i64 0 /\ w1 = wr) (fun i _ => 0)
  case atStart => exact ⟨rfl, rfl⟩
  case round =>
   obtain ⟨rfl, rfl⟩ := hrel
   go_wp2_with fail
   go_ret; refine ⟨hB, _, rfl, ?_⟩; have h9 := qAm.lit (l := []) (n := 0) (by simpa using h_9) rfl (by omega); rw [<- qFN, hm0]; simpa [qGm, qAM] using h9
 have h1 : 0 < m.length := by omega
 obtain ⟨bb, capb, a0, c0, hvb, hbb, n0, -, g1, g2⟩ := H.o.at_ 0 h1; injection hvb with f1 f2 f3; subst f1; clear f2 f3; have Hbb := hZ hbb; have e0 : (m[0]'h1).length = n := by rw [HC.o _ (List.getElem_mem _), Hn.o]
 rw [e0] at n0; clear e0; have z1 : (0 : Int) < (m.length : Int) := by omega
 go_enter Try.func22, Try.ntmps22
 go_wp2_with (at_make; refine qAQ rfl rfl (n) rfl rfl rfl rfl (by omega) ?_)
 intro w1 h_9 hB hlt9; obtain ⟨g, hb⟩ := eX w0.heap.size; rw [hb] at h_9 ⊢; have Oc' := hZ h_9; have hge_g : Hid (w0.heap.size <= g) := hZ (Nat.le_of_eq hb); have hlt_g : Hid (g < w1.heap.size) := hZ (by rw [<- hb]; exact hlt9); clear h_9 hb hlt9; replace HB := bT HB hB; clear hB; have Oc := Oc'; clear Oc'; clear n0
 go_wp2_with fail
 replace Oc : Hid (qAy w1 g 3 ((qGm v m 0 0).map zv)) := hZ (by have h9 := Oc.o; rw [qIR, Hn.o]; simpa [zv] using h9); have HGg : Hid (w0.heap.size <= g) := hge_g; clear hge_g hlt_g
 go_loopw [7] (fun i wr => ∃ j : Nat, j <= m.length /\ i = .int .i64 j /\ Hid (qAy wr g 3 ((qGm v m j 0).map zv)) /\ Hid (Below w0.heap.size w0 wr)) (fun i _ => m.length - (intOf i).toNat)
 case atStart => exact ⟨0, by omega, rfl, Oc, HB⟩
 case round =>
  clear Oc HB; obtain ⟨j, hj, rfl, Oc, HB⟩ := hrel; obtain ⟨w1, rfl⟩ := eY wr; by_cases hlt : j < m.length
  ·skip
   have j1 : (0 : Int) <= (j : Int) := by omega
   have j2 : (j : Int) < (m.length : Int) := by omega
   have j3 : (j : Int) < (v.length : Int) := by omega
   have j4 : j < v.length := by omega
   obtain ⟨bb2, capb2, ar, cr, hvb, -, n1, HR, g1, g2⟩ := H.o.at_ j hlt; injection hvb with f1 f2 f3; injection f1 with f1; injection f1 with f1; subst f1; clear f2 f3; have hrn : (m[j]'hlt).length = n := by rw [HC.o _ (List.getElem_mem _), Hn.o]
   obtain ⟨r, hr⟩ := eX (m[j]'hlt); have Hr := hZ hr; rw [hr] at n1 HR g1 hrn; clear hr; rw [hrn] at n1; obtain ⟨bv2, capv, hvv, hbv, v1⟩ := HV.o.at_ j j4; injection hvv with f1 f2 f3; subst f1; clear f2 f3; obtain ⟨x, hx⟩ := eX (v[j]'j4); have Hx := hZ hx; rw [hx] at v1; clear hx; have HN1 := hZ n1; have HV1 := hZ v1; have Hbv := hZ hbv; have HRr := hZ HR; clear n1 v1 HR
   go_wp2_with fail
   go_loopw [8] (fun i wr => ∃ k : Nat, k <= n /\ i = .int .i64 k /\ Hid (qAy wr g 3 ((qGm v m j k).map zv)) /\ Hid (Below w0.heap.size w0 wr)) (fun i _ => n - (intOf i).toNat)
   case atStart => exact ⟨0, by omega, rfl, Oc, HB⟩
   case round =>
    clear Oc HB; obtain ⟨k, hk, rfl, Oc, HB⟩ := hrel; obtain ⟨w1, rfl⟩ := eY wr; by_cases hkc : k < n
    ·skip
     have k1 : (0 : Int) <= (k : Int) := by omega
     have k2 : (k : Int) < (n : Int) := by omega
     have k3 : (k : Int) < (r.length : Int) := by omega
     obtain ⟨br, rfl, -, hbr, y1⟩ := qB1 HRr.o k (by omega); obtain ⟨y, hy⟩ := eX (vec r k); have Hy := hZ hy; rw [hy] at y1; clear hy; obtain ⟨s0, hs0⟩ := eX (qHz v m j k); obtain ⟨p0, hp0⟩ := eX (IntKind.i64.wrap (x * y)); obtain ⟨s1, hs1⟩ := eX (IntKind.i64.wrap (s0 + p0)); have Hs1 : Hid (qHz v m (j + 1) k = s1) := hZ (by rw [qJa v m j k hlt, hs0, Hr.o, Hy.o, qAj j4, Hx.o, hp0, hs1]); have Hs0 : Hid (∃ h : k < (qGm v m j k).length, (qGm v m j k)[k] = s0) := hZ ⟨by rw [qBs, Hn.o]; exact hkc, by rw [qCw v m j k k (by rw [Hn.o]; exact hkc), if_neg (by omega), hs0]⟩; have wp0 := hp0; have ws1 := hs1; have b1 := qEN (x * y); rw [hp0] at b1; have b2 := qEN (s0 + p0); rw [hs1] at b2; have wp0' : IntKind.i64.wrap p0 = p0 := IntWalk.i64_in _ (by omega); have ws1' : IntKind.i64.wrap s1 = s1 := IntWalk.i64_in _ (by omega); clear hs0 b1 b2 hp0 hs1; have HY1 := hZ y1; have Hbr := hZ hbr; clear y1
     go_wp2_with fail
     obtain ⟨w2, hwd⟩ := eX w1.drew; have hB := dB hwd; replace Oc := Oc.b hB; replace HB := bT HB hB; clear hB; have HBr : Hid (qAb (fun b => False) w2 w2) := hZ (qAb.refl _ _); refine qAs [20] (fun w' => qAb (fun b => False) w2 w') (by kernel_rfl) (by rw [hwd]; exact qAb.refl _ _) (fun hHeld => ?_); rw [hwd] at hHeld ⊢; clear hwd; have f0 : w2.cell? ⟨g, k, none⟩ = some (.int .i64 s0) := (Oc.o.cell k).trans (by obtain ⟨h8, h9⟩ := Hs0.o; rw [List.getElem?_map, List.getElem?_eq_getElem h8, h9]; rfl); have f1 := (HB.o.cell (p := ⟨bv2, j, none⟩) Hbv.o).trans HV1.o; have f2 := (HB.o.cell (p := ⟨bb, j, none⟩) Hbb.o).trans HN1.o; have f3 := (HB.o.cell (p := ⟨br, k, none⟩) Hbr.o).trans HY1.o; have m0 := Oc.o.lt; have m1 := Nat.lt_of_lt_of_le Hbv.o HB.o.size; have m2 := Nat.lt_of_lt_of_le Hbb.o HB.o.size; have m3 := Nat.lt_of_lt_of_le Hbr.o HB.o.size; refine pU 0 35 ?_; refine pU 1 36 ?_; refine pU 2 37 ?_; refine pU 3 38 ?_; refine pU 4 39 ?_; refine tU 5 40 (cF f0 m0) ?_; refine pU 6 41 ?_; refine pU 7 42 ?_; refine pU 8 43 ?_; refine tU 9 44 (cF f1 m1) ?_; refine pU 10 45 ?_; refine pU 11 46 ?_; refine pU 12 47 ?_; refine tU 13 48 (cF f2 m2) ?_; refine pU 14 49 ?_; refine pU 15 50 ?_; refine tU 16 51 (cF f3 m3) ?_; refine pU 17 52 ?_; refine pU 18 53 ?_; refine pU 19 54 ?_; clear f0 f1 f2 f3 m0 m1 m2 m3; obtain ⟨u9, e1⟩ : ∃ u, w2.cell? ⟨g, k, none⟩ = some u := ⟨_, (Oc.o.cell k).trans (List.getElem?_eq_getElem (by rw [List.length_map]; exact Hs0.o.1))⟩; have e2 := Oc.o.frozen (k); obtain ⟨w3, hw⟩ := eX (w2.setCell ⟨g, k, none⟩ (.int .i64 s1)); have ho : qAb (fun b => b = g) w2 w3 := by rw [<- hw]; exact (qAb.refl (fun b => b = g) _).set (p := ⟨g, k, none⟩) rfl _
     have hN : ∀ b, b = g -> qAg w2 b := fun b e => e ▸ Oc.o.noInt qCi; replace Oc := hZ ((by have h1 := Oc.o.set k (.int .i64 s1); rw [hw, show (Value.int .i64 s1) = zv s1 from rfl, <- List.map_set, <- Hs1.o, qIS v m j k (by rw [Hn.o]; exact hkc)] at h1; exact h1)); replace HB := hZ (qAn HB.o ho (fun b e => by have := HGg.o; omega) HB.o.size); clear ho hN; refine lU 20 fun K hK => ?_; go_simp
     try rw [hw]
     refine hK.out _ _ ?_; clear hK K
     try simp only [Act.put, sX1, sX2, sX3]
     clear hw e1 e2; refine dU ?_; clear hHeld
     go_wp2_with fail
     go_roundw
     case rel => exact ⟨k + 1, by omega, by go_num, Oc, HB⟩
     case measure => simp [intOf]; omega
    ·skip
     obtain rfl : k = n := by omega
     go_wp2_with fail
     go_roundw
     case rel => exact ⟨j + 1, by omega, by go_num, hZ (by have h9 := Oc.o; rw [<- Hn.o, qIT] at h9; exact h9), HB⟩
     case measure => simp [intOf]; omega
  ·skip
   obtain rfl : j = m.length := by omega
   have z3 : ¬ (m.length : Int) < (v.length : Int) := by omega
   have z4 : ¬ m.length < v.length := by omega
   go_wp2_with fail
   go_ret; refine ⟨HB.o, _, rfl, ?_⟩; have h9 := Oc.o; rw [qFN] at h9; exact qAm.lit h9 (by rw [qDk, Hn.o]) hn
open Go.RowKit
theorem qDj (v : Value) (zs : List Int) (len n : Nat) (w0 : World) (h : qCB w0 v zs len) (hn : n <= 1000) :
 Calls Try.prog 23 #[v, .int .i64 n] w0 fun e w' => Below w0.heap.size w0 w' /\ ∃ u l, e = .returned u /\ qAm w' u l /\ l.length = n /\ ∀ x ∈ l, -3 <= x /\ x <= 3 := by
 have H := hZ h; have HB := hZ (Below.refl w0.heap.size w0); clear h
 go_enter Try.func23, Try.ntmps23
 go_wp2_with (at_make; refine qAQ rfl rfl (n) rfl rfl rfl rfl (by omega) ?_)
 intro w1 h_9 hB hlt9; obtain ⟨g, hb⟩ := eX w0.heap.size; rw [hb] at h_9 ⊢; have Oc' := hZ h_9; have hge_g : Hid (w0.heap.size <= g) := hZ (Nat.le_of_eq hb); have hlt_g : Hid (g < w1.heap.size) := hZ (by rw [<- hb]; exact hlt9); clear h_9 hb hlt9; replace HB := bT HB hB; clear hB; have Oc := Oc'; clear Oc'
 go_wp2_with fail
 replace Oc : Hid (qAy w1 g 3 ((List.replicate n (0 : Int)).map zv)) := hZ (by have h9 := Oc.o; simpa [zv] using h9); have HGg : Hid (w0.heap.size <= g) := hge_g; clear hge_g hlt_g
 go_loopw [6] (fun i wr => ∃ (k : Nat) (cs : List Int), k <= n /\ i = .int .i64 k /\ Hid (cs.length = n /\ ∀ x ∈ cs, -3 <= x /\ x <= 3) /\ Hid (qAy wr g 3 (cs.map zv)) /\ Hid (Below w0.heap.size w0 wr)) (fun i _ => n - (intOf i).toNat)
 case atStart => exact ⟨0, List.replicate n 0, by omega, rfl, hZ ⟨by simp, fun x hx => by rw [(List.mem_replicate.1 hx).2]; omega⟩, Oc, HB⟩
 case round =>
  clear Oc HB; obtain ⟨k, cs, hk, rfl, HC, Oc, HB⟩ := hrel; obtain ⟨w1, rfl⟩ := eY wr; by_cases hkc : k < n
  ·skip
   have k1 : (0 : Int) <= (k : Int) := by omega
   have k2 : (k : Int) < (n : Int) := by omega
   have HP4 := hZ (qC3 v zs len k 7 w1 (H.o.below (Nat.le_refl _) HB.o) (by omega) (by omega) (by omega)); have R4 := qBN zs len k 7 (by omega); obtain ⟨z, hz⟩ := eX (qDn zs len k 7); rw [hz] at HP4 R4; clear hz
   go_wp2_with fail
   refine HP4.o.mono ?_; rintro e w9 ⟨rfl, hw9⟩; replace hw9 := hw9.symm; subst hw9; clear HP4; obtain ⟨z1, hz1⟩ := eX (z - 3); have hz1w : IntKind.i64.wrap (z - 3) = z1 := by rw [IntWalk.i64_in _ (by omega)]; exact hz1
   have rz1 : -3 <= z1 /\ z1 <= 3 := by omega
   obtain ⟨u9, e1⟩ : ∃ u, w1.cell? ⟨g, k, none⟩ = some u := ⟨_, (Oc.o.cell k).trans (List.getElem?_eq_getElem (by rw [List.length_map, HC.o.1]; exact hkc))⟩; have e2 := Oc.o.frozen (k); obtain ⟨w2, hw⟩ := eX (w1.setCell ⟨g, k, none⟩ (.int .i64 z1)); have ho : qAb (fun b => b = g) w1 w2 := by rw [<- hw]; exact (qAb.refl (fun b => b = g) _).set (p := ⟨g, k, none⟩) rfl _
   have hN : ∀ b, b = g -> qAg w1 b := fun b e => e ▸ Oc.o.noInt qCi; replace Oc := hZ ((by have h1 := Oc.o.set k (.int .i64 z1); rw [hw, show (Value.int .i64 z1) = zv z1 from rfl, <- List.map_set] at h1; exact h1)); replace HB := hZ (qAn HB.o ho (fun b e => by have := HGg.o; omega) HB.o.size); clear ho hN; replace HC : Hid ((cs.set k z1).length = n /\ ∀ x ∈ cs.set k z1, -3 <= x /\ x <= 3) := hZ ⟨by rw [List.length_set]; exact HC.o.1, fun x hx => by rcases List.mem_or_eq_of_mem_set hx with h9 | h9; exact HC.o.2 x h9; rw [h9]; exact rz1⟩; generalize cs.set k z1 = cs at *
   go_wp2_with fail
   go_roundw
   case rel => exact ⟨k + 1, cs, by omega, by go_num, HC, Oc, HB⟩
   case measure => simp [intOf]; omega
  ·skip
   go_wp2_with fail
   go_ret; obtain rfl : k = n := by omega
   exact ⟨HB.o, _, cs, rfl, qAm.lit Oc.o HC.o.1 hn, HC.o⟩
section
variable {m H K : List (List Int)}
theorem qJj {n : Nat} (h : ∀ r ∈ H, r.length = n) : ∀ r ∈ H, r.length = qAM H := by
 intro r hr; unfold qAM; cases H with
 | nil => cases hr
 | cons a H => rw [h r hr]; simpa using (h a (by simp)).symm
theorem qGZ {n : Nat} (h : ∀ r ∈ H, r.length = n) (h0 : 0 < H.length) : qAM H = n := by
 unfold qAM; cases H with
 | nil => simp at h0
 | cons a H => simpa using h a (by simp)
end
end Go.Proofs.Ytlmbebbdamgfpaa
