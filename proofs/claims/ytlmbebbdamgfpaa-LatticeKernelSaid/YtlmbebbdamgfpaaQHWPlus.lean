/- wide: plus, minus. -/
import Derived.Test.YtlmbebbdamgfpaaQHDecimal
import Derived.Test.YtlmbebbdamgfpaaProg
import Derived.Deep.QuietTactic
import Derived.BigQuiet
import Derived.LoopTactic
import Derived.RegionTactic
import Derived.BigRegion
import Derived.ChangeAlike
import Derived.IntWalk
import Derived.Outline
import Derived.WalkLawsBesides
set_option linter.unusedVariables false
set_option linter.unusedSimpArgs false
set_option maxHeartbeats 2000000
set_option maxRecDepth 100000
namespace Go.Proofs.Ytlmbebbdamgfpaa
open Go.RowKit
abbrev W2 : Nat := 4294967296
theorem qAm : 2 <= W2 := by decide
theorem qB1 (v : Value) (L : List Nat) (w : World) (h : qAd .u32 w v L) (hlow : Low W2 L) (hlen : L.length <= 4611686018427387904) :
 Calls Try.prog 58 #[v] w fun e w' => ∃ v', e = .returned v' /\ qAd .u32 w v' (qAe W2 (val W2 L)) /\ w = w' := by
 have Htake := hZ (fun n hn => h.take n hn); obtain ⟨a, cap, rfl, h1, h2, hc⟩ := h; have Hc := hZ hc; have Hlow := hZ hlow; clear hc hlow; obtain ⟨N, hN⟩ := eX L.length; have HN := hZ hN; rw [hN] at h1 hlen ⊢; clear hN
 go_enter Try.func58, Try.ntmps58
 go_wp2
 go_loop [3] (fun i => ∃ n : Nat, n <= N /\ i = .int .i64 n /\ Hid (∀ j (h : j < L.length), n <= j -> L[j] = 0)) (fun i => (intOf i).toNat)
 case atStart => exact ⟨N, Nat.le_refl _, rfl, hZ (fun j hj hn => by rw [HN.o] at hj; omega)⟩
 case round =>
  obtain ⟨n, hn, rfl, hz⟩ := hrel; have hdone : ∀ n : Nat, n <= N -> (∀ j (h : j < L.length), n <= j -> L[j] = 0) -> (∀ h : n - 1 < L.length, n = 0 \/ L[n - 1] ≠ 0) -> ∃ v', Ending.returned (.slice a n cap) = .returned v' /\ qAd .u32 w v' (qAe W2 (val W2 L)) := by
   intro n hn hz hl; obtain ⟨a', cap', hv, _, _, hr⟩ := Htake.o n (by rw [HN.o]; exact hn); rw [HN.o] at hv; injection hv with e1 e2 e3; subst e1 e3; rw [qD8 W2 qAm L Hlow.o n (by rw [HN.o]; exact hn) hz hl] at hr; exact ⟨_, rfl, hr⟩
  have Hd := hZ hdone; clear hdone; by_cases h0 : n = 0
  ·subst h0
   go_wp2
   go_ret; obtain ⟨v', e, hr⟩ := Hd.o 0 hn hz.o (fun _ => .inl rfl); exact ⟨v', e, hr, rfl⟩
  ·have hlt : n - 1 < L.length := by rw [HN.o]; omega
   obtain ⟨b, off, rfl, hb, hcc⟩ := Hc.o (by rw [HN.o]; omega); have hcell := hcc (n - 1) hlt; clear hcc; by_cases hzz : L[n - 1] = 0
   ·have hz2 : Hid (∀ j (h : j < L.length), n - 1 <= j -> L[j] = 0) := hZ (fun j hj hnj => by
     by_cases e : j = n - 1
     ·subst e; exact hzz
     ·exact hz.o j hj (by omega))
    rw [hzz] at hcell; clear hzz
    go_wp2
    go_round
    case rel => exact ⟨n - 1, by omega, by go_num, hz2⟩
    case measure => simp [intOf]; omega
   ·have hne : (((L[n - 1] : Nat) : Int) == 0) = false := by simp; exact hzz
    go_wp2
    go_ret; obtain ⟨v', e, hr⟩ := Hd.o n hn hz.o (fun _ => .inr hzz); exact ⟨v', e, hr, rfl⟩
theorem qDS : (Try.prog.info? 88).map (fun i => (i.zero, i.size, i.bytes)) = some (some (.int .u32 0), 1, 4) := by kernel_rfl
theorem qIK : (Try.prog.info? 88).map (·.size) = some 1 := by kernel_rfl
theorem qEO (v : Value) (L : List Nat) (w : World) (h : qAd .u32 w v L) (hlen : L.length <= 1099511627776) :
 Calls Try.prog 82 #[v] w fun e w' => e = .returned (.slice (some ⟨w.heap.size, 0, none⟩) L.length L.length) /\ Blk w' w.heap.size 88 .u32 L /\ Below w.heap.size w w' := by
 obtain ⟨i0, hi, hz0, hz1, hz2⟩ := info_parts qDS; have Hi := hZ hi; have Hz0 := hZ hz0; have Hz1 := hZ hz1; have Hz2 := hZ hz2; clear hi hz0 hz1 hz2; have Hrow0 := hZ h; obtain ⟨a, cap, rfl, h1, h2, _⟩ := h; obtain ⟨N, hN⟩ := eX L.length; have HN := hZ hN; rw [hN] at h1 hlen Hrow0 ⊢; clear hN
 go_enter Try.func82, Try.ntmps82
 go_wp2_with (at_make; refine qAy _ rfl _ _ 56 rfl 88 i0 .u32 Try.underlying56 Hi.o Hz0.o Hz1.o _ _ _ _ N rfl rfl rfl rfl (by rw [Hz2.o]; omega) (by omega) ?_)
 intro w1 hblk hB1 hz1; have Hblk := hZ hblk; have HB1 := hZ hB1; have Hrow := hZ (Hrow0.o.below (Nat.le_refl _) hB1); clear hblk hB1 Hrow0
 go_wp2_with (with_reducible refine qBR rfl (.tmp 7) (.tmp 8) 56 rfl 88 Try.underlying56 qIK .u32 w.heap.size N N (List.replicate N 0) L a N cap rfl rfl Hblk.o (List.length_replicate ..) HN.o (Nat.le_refl _) Hrow.o ?_)
 intro w2 hb2 hO2 _; have Hb2 := hZ hb2; have HB2 := hZ (hO2.below HB1.o (Nat.le_of_lt hz1) (fun b e => by rw [e]; exact Nat.le_refl _)); clear hb2 hO2
 go_wp2
 go_ret; refine ⟨rfl, ?_, HB2.o⟩; have := Hb2.o; rw [HN.o, Nat.sub_self, List.replicate_zero, List.append_nil] at this; exact this
def qAK (a b : Int) : Int := if a < b then -1 else if b < a then 1 else 0
theorem qIu (a b : Int) (w : World) : Calls Try.prog 100 #[.int .i64 a, .int .i64 b] w fun e w' => e = .returned (.int .i64 (qAK a b)) /\ w = w' := by
 have hn : ∀ (x : Int), Calls Try.prog 104 #[.int .i64 x] w fun e w' => e = .returned (.bool false) /\ w = w' := by
  intro x; have hx : (x != x) = false := by simp
  go_enter Try.func104, Try.ntmps104
  go_wp2
  go_ret; exact ⟨rfl, rfl⟩
 have Hn := hZ hn; clear hn; rcases Int.lt_trichotomy a b with h | h | h
 ·have hc : Hid (qAK a b = -1) := hZ (by unfold qAK; rw [if_pos h])
  go_enter Try.func100, Try.ntmps100
  go_wp2_with (go_at_call 104; refine (Hn.o _).mono ?_; rintro e w' ⟨rfl, rfl⟩)
  go_ret; exact ⟨by rw [hc.o]; rfl, rfl⟩
 ·subst h
  have hc : Hid (qAK a a = 0) := hZ (by unfold qAK; rw [if_neg (by omega), if_neg (by omega)])
  go_enter Try.func100, Try.ntmps100
  go_wp2_with (go_at_call 104; refine (Hn.o _).mono ?_; rintro e w' ⟨rfl, rfl⟩)
  go_ret; exact ⟨by rw [hc.o]; rfl, rfl⟩
 ·have hc : Hid (qAK a b = 1) := hZ (by unfold qAK; rw [if_neg (by omega), if_pos h])
  have h' : ¬ a < b := by omega
  go_enter Try.func100, Try.ntmps100
  go_wp2_with (go_at_call 104; refine (Hn.o _).mono ?_; rintro e w' ⟨rfl, rfl⟩)
  go_ret; exact ⟨by rw [hc.o]; rfl, rfl⟩
theorem qIt (a b : Int) (w : World) : Calls Try.prog 101 #[.int .u32 a, .int .u32 b] w fun e w' => e = .returned (.int .i64 (qAK a b)) /\ w = w' := by
 have hn : ∀ (x : Int), Calls Try.prog 105 #[.int .u32 x] w fun e w' => e = .returned (.bool false) /\ w = w' := by
  intro x; have hx : (x != x) = false := by simp
  go_enter Try.func105, Try.ntmps105
  go_wp2
  go_ret; exact ⟨rfl, rfl⟩
 have Hn := hZ hn; clear hn; rcases Int.lt_trichotomy a b with h | h | h
 ·have hc : Hid (qAK a b = -1) := hZ (by unfold qAK; rw [if_pos h])
  go_enter Try.func101, Try.ntmps101
  go_wp2_with (go_at_call 105; refine (Hn.o _).mono ?_; rintro e w' ⟨rfl, rfl⟩)
  go_ret; exact ⟨by rw [hc.o]; rfl, rfl⟩
 ·subst h
  have hc : Hid (qAK a a = 0) := hZ (by unfold qAK; rw [if_neg (by omega), if_neg (by omega)])
  go_enter Try.func101, Try.ntmps101
  go_wp2_with (go_at_call 105; refine (Hn.o _).mono ?_; rintro e w' ⟨rfl, rfl⟩)
  go_ret; exact ⟨by rw [hc.o]; rfl, rfl⟩
 ·have hc : Hid (qAK a b = 1) := hZ (by unfold qAK; rw [if_neg (by omega), if_pos h])
  have h' : ¬ a < b := by omega
  go_enter Try.func101, Try.ntmps101
  go_wp2_with (go_at_call 105; refine (Hn.o _).mono ?_; rintro e w' ⟨rfl, rfl⟩)
  go_ret; exact ⟨by rw [hc.o]; rfl, rfl⟩
theorem qBJ {a b : Int} (h : a < b) : qAK a b = -1 := by unfold qAK; rw [if_pos h]
theorem qBB {a b : Int} (h : b < a) : qAK a b = 1 := by unfold qAK; rw [if_neg (by omega), if_pos h]
theorem qAS (a : Int) : qAK a a = 0 := by unfold qAK; rw [if_neg (by omega), if_neg (by omega)]
theorem qLj (m n : Nat) (h : (qAe W2 m).length ≠ (qAe W2 n).length) : qAK ((qAe W2 m).length : Int) ((qAe W2 n).length : Int) = qAK (m : Int) (n : Int) := by
 rcases Nat.lt_or_gt_of_ne h with h | h
 ·rw [qBJ (by omega), qBJ (by have := qDe W2 qAm m n h; omega)]
 ·rw [qBB (by omega), qBB (by have := qDe W2 qAm n m h; omega)]
theorem qGn {A B : List Nat} {n : Nat} (hn : n - 1 < A.length) (hm : n - 1 < B.length) (h0 : 0 < n) (hd : A.drop n = B.drop n) (he : A[n - 1] = B[n - 1]) : A.drop (n - 1) = B.drop (n - 1) := by
 rw [List.drop_eq_getElem_cons hn, List.drop_eq_getElem_cons hm, he, Nat.sub_add_cancel h0, hd]
theorem qMa (m n i : Nat) (h1 : i - 1 < (qAe W2 m).length) (h2 : i - 1 < (qAe W2 n).length) (h0 : 0 < i) (hd : (qAe W2 m).drop i = (qAe W2 n).drop i) (hne : (qAe W2 m)[i - 1] ≠ (qAe W2 n)[i - 1]) :
 qAK ((qAe W2 m)[i - 1] : Int) ((qAe W2 n)[i - 1] : Int) = qAK (m : Int) (n : Int) := by
 have e : i - 1 + 1 = i := Nat.sub_add_cancel h0; rcases Nat.lt_or_gt_of_ne hne with h | h
 ·have := qC4 W2 qAm _ _ (qAl W2 qAm m) (i - 1) h1 h2 (by rw [e]; exact hd) h
  rw [qAi W2 qAm, qAi W2 qAm] at this; rw [qBJ (by omega), qBJ (by omega)]
 ·have := qC4 W2 qAm _ _ (qAl W2 qAm n) (i - 1) h2 h1 (by rw [e]; exact hd.symm) h
  rw [qAi W2 qAm, qAi W2 qAm] at this; rw [qBB (by omega), qBB (by omega)]
theorem qBY (va vb : Value) (m n : Nat) (w : World) (ha : qAd .u32 w va (qAe W2 m)) (hb : qAd .u32 w vb (qAe W2 n)) (hl1 : (qAe W2 m).length <= 4611686018427387904) (_hl2 : (qAe W2 n).length <= 4611686018427387904) :
 Calls Try.prog 81 #[va, vb] w fun e w' => e = .returned (.int .i64 (qAK (m : Int) (n : Int))) /\ ∃ d, w' = w.drewN d := by
 obtain ⟨a, cap, rfl, h1, h2, hc⟩ := ha; obtain ⟨a', cap', rfl, h1', h2', hc'⟩ := hb; have Hc := hZ hc; have Hc' := hZ hc'; clear hc hc'; by_cases hne : (qAe W2 m).length = (qAe W2 n).length
 ·obtain ⟨N, hN⟩ := eX ((qAe W2 m).length)
  have HN := hZ hN; have HM := hZ (hne.symm.trans hN); rw [hne.symm.trans hN] at h1' _hl2 ⊢; rw [hN] at h1 hl1 ⊢; clear hN hne
  go_enter Try.func81, Try.ntmps81
  go_wp2
  go_loopw [5] (fun i wr => ∃ k d : Nat, k <= N /\ i = .int .i64 ((k : Int) - 1) /\ Hid ((qAe W2 m).drop k = (qAe W2 n).drop k) /\ Hid (wr = w.drewN d)) (fun i _ => (intOf i + 1).toNat)
  case atStart => exact ⟨N, 0, Nat.le_refl _, rfl, hZ (by rw [List.drop_of_length_le (by rw [HN.o]; exact Nat.le_refl _), List.drop_of_length_le (by rw [HM.o]; exact Nat.le_refl _)]), hZ rfl⟩
  case round =>
   obtain ⟨k, d, hk, rfl, hd, hw⟩ := hrel; have hw' := hw.o; subst hw'; clear hw; by_cases h0 : k = 0
   ·subst h0
    have he : Hid (qAK (m : Int) (n : Int) = 0) := hZ (by
     have := hd.o; rw [List.drop_zero, List.drop_zero] at this; have h3 : m = n := by rw [<- qAi W2 qAm m, <- qAi W2 qAm n, this]
     rw [h3, qAS])
    go_wp2
    go_ret; exact ⟨by rw [he.o]; rfl, d, rfl⟩
   ·have q1 : k - 1 < (qAe W2 m).length := by rw [HN.o]; omega
    have q2 : k - 1 < (qAe W2 n).length := by rw [HM.o]; omega
    obtain ⟨b, off, rfl, hb, hcc⟩ := Hc.o (by omega); obtain ⟨b', off', rfl, hb', hcc'⟩ := Hc'.o (by omega); have c1 := hcc (k - 1) q1; have c2 := hcc' (k - 1) q2; clear hcc hcc'; have i0 : (0 : Int) <= (k : Int) - 1 := by omega
    have i1 : (k : Int) - 1 < (N : Int) := by omega
    have i2 : ((k : Int) - 1).toNat = k - 1 := by omega
    by_cases he : (qAe W2 m)[k - 1] = (qAe W2 n)[k - 1]
    ·have Hd2 := hZ (qGn q1 q2 (by omega) hd.o he)
     rw [he] at c1; generalize (qAe W2 n)[k - 1] = z at *; clear he
     go_wp2
     go_quiet (fail)
     go_wp2
     go_roundw
     case rel => exact ⟨k - 1, _, by omega, by go_num, Hd2, hZ rfl⟩
     case measure => simp [intOf]; omega
    ·have Hca := hZ (qMa m n k q1 q2 (by omega) hd.o he)
     have hx : ((((qAe W2 m)[k - 1] : Nat) : Int) != (((qAe W2 n)[k - 1] : Nat) : Int)) = true := by simp only [bne_iff_ne, ne_eq]; omega
     clear he; generalize (qAe W2 n)[k - 1] = z at *; generalize (qAe W2 m)[k - 1] = y at *
     go_wp2
     go_quiet (fail)
     obtain ⟨W3, hW3⟩ := eX ((w.drewN d).drewN nq); have c3 : W3.cell? ⟨b, off + (k - 1), none⟩ = some (.int .u32 (y : Int)) := by rw [<- hW3]; exact c1
     have c4 : W3.cell? ⟨b', off' + (k - 1), none⟩ = some (.int .u32 (z : Int)) := by rw [<- hW3]; exact c2
     have HW3 := hZ hW3; rw [hW3]; clear hW3 c1 c2
     go_wp2
     go_quiet ((go_at_call 101; exact Calls.quiet_of_same ((qIt _ _ _).mono fun _ _ h => ⟨h.1, h.2.symm⟩)))
     go_wp2
     go_ret; exact ⟨by rw [<- Hca.o]; rfl, _, by rw [<- HW3.o, World.drewN_drewN, World.drewN_drewN]⟩
 ·have Hcl := hZ (qLj m n hne)
  have hx : ((((qAe W2 m).length : Nat) : Int) != (((qAe W2 n).length : Nat) : Int)) = true := by simp only [bne_iff_ne, ne_eq]; omega
  have hx2 : ((qAe W2 m).length != (qAe W2 n).length) = true := by simpa using hne
  clear hne Hc Hc'; generalize (qAe W2 m).length = N at *; generalize (qAe W2 n).length = M at *
  go_enter Try.func81, Try.ntmps81
  go_wp2_with (go_at_call 100; refine (qIu _ _ _).mono ?_; rintro e w' ⟨rfl, rfl⟩)
  go_ret; exact ⟨by rw [<- Hcl.o]; rfl, 0, rfl⟩
theorem qCy (L : List Nat) (k c x : Nat) (h : k < L.length) : val W2 (L.set k ((c + (L[k] + x)) % W2)) + (c + (L[k] + x)) / W2 * W2 ^ (k + 1) = val W2 L + (c + x) * W2 ^ k := by
 have h1 := qBh W2 L k ((c + (L[k] + x)) % W2) h; have h2 := Nat.div_add_mod (c + (L[k] + x)) W2; rw [Nat.pow_succ]; generalize (c + (L[k] + x)) % W2 = r at *; generalize (c + (L[k] + x)) / W2 = q at *; generalize W2 ^ k = p at *; generalize L[k] = s at *; generalize val W2 L = v at *; generalize val W2 (L.set k r) = v' at *; generalize W2 = B at *
 grind
theorem qD1 (i N g cb sb c x : Nat) (L : List Nat) (w : World) (hL : L.length = N) (hi : i < L.length) (_hN : N <= 1099511627776) (hblk : Blk w g 88 .u32 L) (hcb : One w cb 85 (.int .u64 (c : Int))) (hsb : One w sb 56 (.slice (some ⟨g, 0, none⟩) N N))
 (h1 : cb ≠ g) (h2 : sb ≠ g) (h3 : sb ≠ cb) (hc : c <= 4294967296) (hx : x < 4294967296) (hlow : Low W2 L) :
 Calls Try.prog 90 #[.int .i64 (i : Int), .int .u32 (x : Int), .pointer (some ⟨cb, 0, none⟩), .pointer (some ⟨sb, 0, none⟩)] w fun e w' => (∃ v, e = .returned v) /\
  Blk w' g 88 .u32 (L.set i ((c + (L[i] + x)) % W2)) /\ One w' cb 85 (.int .u64 (((c + (L[i] + x)) / W2 : Nat) : Int)) /\ One w' sb 56 (.slice (some ⟨g, 0, none⟩) N N) /\ qAc (fun k => k = g \/ k = cb) w w' := by
 have Hblk := hZ hblk; have Hcb := hZ hcb; have Hsb := hZ hsb; have e1 := hblk.cell i hi; have e2 := hblk.frozen i; have e3 := hcb.cell; have e4 := hcb.frozen; have e5 := hsb.cell; have hs : L[i] < 4294967296 := hlow _ (List.getElem_mem hi); clear hblk hcb hsb hlow; have hi2 : i < N := by omega
 have HL := hZ hL; clear hL; generalize hS : L[i] = s at *; have HS := hZ hS; clear hS; have b1 : IntKind.u64.wrap ((s : Int) + x) = (s : Int) + x := IntWalk.u64_in _ (by omega); have b2 : IntKind.u64.wrap ((c : Int) + ((s : Int) + x)) = (c : Int) + ((s : Int) + x) := IntWalk.u64_in _ (by omega)
 go_enter Try.func90, Try.ntmps90
 go_wp2
 go_region
 go_wp2
 go_end0
 have hr : (((c + (s + x)) % W2 : Nat) : Int) = ((c : Int) + ((s : Int) + x)) % 4294967296 := by simp
 have hq : (((c + (s + x)) / W2 : Nat) : Int) = ((c : Int) + ((s : Int) + x)) / 4294967296 := by simp
 rw [<- hr, <- hq]; refine ⟨⟨_, rfl⟩, ?_, ?_, ?_, ?_⟩
 ·exact (((Hblk.o.far (p := ⟨cb, 0, none⟩) (Ne.symm h1) _).set i _).far (p := ⟨cb, 0, none⟩) (Ne.symm h1) _).drew
 ·exact ((((Hcb.o.set _).far (p := ⟨g, i, none⟩) h1 _).set _)).drew
 ·exact (((Hsb.o.far (p := ⟨cb, 0, none⟩) h3 _).far (p := ⟨g, i, none⟩) h2 _).far (p := ⟨cb, 0, none⟩) h3 _).drew
 ·exact ((((qAc.refl _ w).set (p := ⟨cb, 0, none⟩) (Or.inr rfl) _).set (p := ⟨g, i, none⟩) (Or.inl rfl) _).set (p := ⟨cb, 0, none⟩) (Or.inr rfl) _).drew
structure qCk (X Y : List Nat) (N k c : Nat) (L : List Nat) : Prop where
 len : L.length = N + 1
 low : Low W2 L
 c1 : c <= 1
 eq : val W2 L + c * W2 ^ k = val W2 X + val W2 (Y.take k)
theorem qCk.start (X Y : List Nat) (N : Nat) (hN : X.length = N) (hX : Low W2 X) : qCk X Y N 0 0 (X ++ [0]) :=
 ⟨by simp [hN], qDA hX (fun x hx => by rw [List.mem_singleton.1 hx]; decide), by omega, by rw [qAN]; simp [val]⟩
theorem qCk.carry {X Y : List Nat} {N k c : Nat} {L : List Nat} (h : qCk X Y N k c L) (hk : k < L.length) (y : Nat) (hy : y < W2) : (c + (L[k] + y)) / W2 <= 1 := by
 have h1 : L[k] < W2 := h.low _ (List.getElem_mem hk); have h2 := h.c1; have : c + (L[k] + y) < 2 * W2 := by unfold W2 at *; omega
 have := (Nat.div_lt_iff_lt_mul (show 0 < W2 by decide)).2 this; omega
theorem qCk.next {X Y : List Nat} {N k c : Nat} {L : List Nat} (h : qCk X Y N k c L) (hk : k < L.length) (hy : k < Y.length) (hY : Low W2 Y) :
 qCk X Y N (k + 1) ((c + (L[k] + Y[k])) / W2) (L.set k ((c + (L[k] + Y[k])) % W2)) := by
 refine ⟨by rw [List.length_set]; exact h.len, qAP h.low _ _ (Nat.mod_lt _ (by decide)), h.carry hk _ (hY _ (List.getElem_mem hy)), ?_⟩; rw [qCy L k c Y[k] hk, qAf W2 Y k hy, Nat.add_mul]; have := h.eq; omega
theorem qCk.over {X Y : List Nat} {N k c : Nat} {L : List Nat} (h : qCk X Y N k c L) (hk : k < L.length) (hy : Y.length <= k) :
 qCk X Y N (k + 1) ((c + (L[k] + 0)) / W2) (L.set k ((c + (L[k] + 0)) % W2)) := by
 refine ⟨by rw [List.length_set]; exact h.len, qAP h.low _ _ (Nat.mod_lt _ (by decide)), h.carry hk _ (by decide), ?_⟩; rw [qCy L k c 0 hk, Nat.add_zero, List.take_of_length_le (by omega)]; have := h.eq; rw [List.take_of_length_le hy] at this; exact this
theorem qCk.room {X Y : List Nat} {N k c : Nat} {L : List Nat} (h : qCk X Y N k c L) (hX : Low W2 X) (hY : Low W2 Y) (hN : X.length = N) (hM : Y.length <= N) (hk : k <= N + 1) (hy : Y.length <= k) (hc : c ≠ 0) : k < N + 1 := by
 rcases Nat.lt_or_ge k (N + 1) with h1 | h1
 ·exact h1
 ·have hk1 : k = N + 1 := by omega
  subst hk1; have h2 := h.eq; rw [List.take_of_length_le hy] at h2; have h3 := qBk W2 (by decide) X hX; have h4 := qBk W2 (by decide) Y hY; have h5 : W2 ^ Y.length <= W2 ^ N := Nat.pow_le_pow_right (by decide) hM; rw [hN] at h3; have h6 : 1 * W2 ^ (N + 1) <= c * W2 ^ (N + 1) := Nat.mul_le_mul_right _ (by omega); have h7 : W2 ^ (N + 1) = W2 ^ N * W2 := Nat.pow_succ ..; have h8 : 2 * W2 ^ N <= W2 ^ N * W2 := by rw [Nat.mul_comm]; exact Nat.mul_le_mul_left _ (by decide)
  omega
theorem qCk.done {X Y : List Nat} {N k : Nat} {L : List Nat} (h : qCk X Y N k 0 L) (hy : Y.length <= k) : val W2 L = val W2 X + val W2 Y := by
 have := h.eq; rw [List.take_of_length_le hy, Nat.zero_mul, Nat.add_zero] at this; exact this
theorem qKP (va vb : Value) (A B : List Nat) (w : World) (ha : qAd .u32 w va A) (hb : qAd .u32 w vb B) (hA : Low W2 A) (hB : Low W2 B) (hl : B.length <= A.length) (hlen : A.length <= 1048576) :
 Calls Try.prog 63 #[va, vb] w fun e w' => ∃ v, e = .returned v /\ qAd .u32 w' v (qAe W2 (val W2 A + val W2 B)) /\ Below w.heap.size w w' := by
 obtain ⟨i0, hi, hz0, hz1, hz2⟩ := info_parts qDS; have Hi := hZ hi; have Hz0 := hZ hz0; have Hz1 := hZ hz1; have Hz2 := hZ hz2; clear hi hz0 hz1 hz2; have HX0 := hZ ha; have HY0 := hZ hb; obtain ⟨xa, xcap, hvx, x1, x2, _⟩ := ha; obtain ⟨ya, ycap, hvy, y1, y2, hyc⟩ := hb; subst hvx hvy; have Hyc := hZ hyc; have HlA := hZ hA; have HlB := hZ hB; have hYlow := hB; clear hyc hA hB; obtain ⟨N, hN⟩ := eX A.length; obtain ⟨M, hM⟩ := eX B.length; have HN := hZ hN; have HM := hZ hM; rw [hN] at x1 HX0 hlen hl; rw [hM] at y1 HY0 hl; rw [hN, hM]; clear hN hM; have hMl : M <= N := by omega
 have HYl := hZ hYlow; clear hYlow
 go_enter Try.func63, Try.ntmps63
 go_wp2_with (at_make; refine qAy _ rfl _ _ 56 rfl 88 i0 .u32 Try.underlying56 Hi.o Hz0.o Hz1.o _ _ _ _ (N + 1) rfl rfl (by omega) (by omega) (by rw [Hz2.o]; omega) (by omega) ?_)
 intro w1 hblk hB1 hz1; obtain ⟨g, hg⟩ := eX w.heap.size; have Hg := hZ hg; rw [hg] at hblk hB1 hz1 ⊢; clear hg; have Hblk1 := hZ (hblk.alloc (.cells #[.slice (some ⟨g, 0, none⟩) (N + 1) (N + 1)] 56)); have HB2 := hZ (hB1.alloc (Nat.le_of_lt hz1) (.cells #[.slice (some ⟨g, 0, none⟩) (N + 1) (N + 1)] 56)); have HX1 := hZ ((HX0.o.below (by rw [Hg.o]; exact Nat.le_refl _) HB2.o)); clear hblk hB1
 go_wp2_with (with_reducible refine qBR rfl (.tmp 22) (.tmp 23) 56 rfl 88 Try.underlying56 qIK .u32 g (N + 1) (N + 1) (List.replicate (N + 1) 0) A xa N xcap rfl rfl Hblk1.o (List.length_replicate ..) HN.o (Nat.le_succ _) HX1.o ?_)
 intro w3 hb3 hO3 hs3; obtain ⟨sb, hsb⟩ := eX w1.heap.size; have hgs : g < sb := by omega
 have hs3' : w3.heap.size = sb + 1 := by rw [<- hsb]; simpa using hs3
 have Hsb3 := hZ (hO3.one (One.new w1 56 (.slice (some ⟨g, 0, none⟩) (N + 1) (N + 1))) (by omega)); have HB3 := hZ (hO3.below HB2.o (by simp; omega) (fun b e => by rw [e]; exact Nat.le_refl _)); have HY3 := hZ (HY0.o.below (by rw [Hg.o]; exact Nat.le_refl _) HB3.o); rw [hsb] at Hsb3 ⊢; have hL3 : A ++ (List.replicate (N + 1) 0).drop A.length = A ++ [0] := by
  rw [HN.o, List.drop_replicate, show N + 1 - N = 1 by omega]; rfl
 have Hb3 : Hid (Blk w3 g 88 .u32 (A ++ [0])) := hZ (by rw [<- hL3]; simpa using hb3); clear hb3 hO3 hs3 hsb hL3 Hblk1 HB2 HX1 HX0
 go_wp2_with fail
 have hcb0 := One.new w3 85 (.int .u64 0); rw [hs3'] at hcb0; obtain ⟨w4, hw4⟩ := eX (w3.alloc (.cells #[.int .u64 0] 85)); have Hb4 := hZ (Hb3.o.alloc (.cells #[.int .u64 0] 85)); have Hsb4 := hZ (Hsb3.o.alloc (.cells #[.int .u64 0] 85)); have HB4 := hZ (HB3.o.alloc (by omega) (.cells #[.int .u64 0] 85)); have Hcb4 := hZ hcb0; rw [hw4] at Hb4 Hsb4 HB4 Hcb4 ⊢; have Hs4 : Hid (w4.heap.size = sb + 1 + 1) := hZ (by rw [<- hw4, World.size_alloc, hs3']); clear hcb0 hw4 Hb3 Hsb3 HB3 hs3' HY3; have HI0 := hZ (qCk.start A B N HN.o HlA.o)
 go_loopw [28] (fun i wr => ∃ (k c : Nat) (L : List Nat), k <= M /\ i = .int .i64 k /\ Hid (qCk A B N k c L) /\ Hid (Blk wr g 88 .u32 L) /\ Hid (One wr (sb + 1) 85 (.int .u64 (c : Int))) /\ Hid (One wr sb 56 (.slice (some ⟨g, 0, none⟩) (N + 1) (N + 1))) /\ Hid (Below g w wr)) (fun i _ => M - (intOf i).toNat)
 case atStart => exact ⟨0, 0, _, by omega, rfl, HI0, Hb4, Hcb4, Hsb4, HB4⟩
 case round =>
  obtain ⟨k, c, L, hk, rfl, hI, hbl, hcb, hsb, hB⟩ := hrel; have hgw := hbl.o.lt; by_cases hlt : k < M
  ·have hy : k < B.length := by rw [HM.o]; exact hlt
   have hkl : k < L.length := by rw [hI.o.len]; omega
   obtain ⟨b, off, rfl, hb, hcc⟩ := Hyc.o (by omega); rw [Hg.o] at hb; have cy := (hB.o.cell (p := ⟨b, off + k, none⟩) hb).trans (hcc k hy); have hyl : B[k] < 4294967296 := HlB.o _ (List.getElem_mem hy); have Hnext := hZ (hI.o.next hkl hy HlB.o); have hc1 := hI.o.c1; have Hp := hZ (qD1 k (N + 1) g (sb + 1) sb c B[k] L wr hI.o.len hkl (by omega) hbl.o hcb.o hsb.o (by omega) (by omega) (by omega) (by omega) hyl hI.o.low); clear hcc; generalize B[k] = y at *
   go_wp2_with (go_at_call 90; refine Hp.o.mono ?_; rintro e w5 ⟨⟨v5, rfl⟩, q1, q2, q3, q4⟩; have Q1 := hZ q1; have Q2 := hZ q2; have Q3 := hZ q3; have Q4 := hZ q4; clear q1 q2 q3 q4)
   go_roundw
   case rel => exact ⟨k + 1, _, _, by omega, by go_num, Hnext, Q1, Q2, Q3, hZ (Q4.o.below hB.o (by omega) (fun b e => by rcases e with e | e <;> omega))⟩
   case measure => simp [intOf]; omega
  ·obtain rfl : k = M := by omega
   clear hlt
   go_wp2_with fail
   obtain ⟨wo, rfl⟩ := eY wr
   go_loopw [10] (fun i wr => ∃ (m c : Nat) (L : List Nat), k <= m /\ m <= N + 1 /\ i = .int .i64 m /\ Hid (qCk A B N m c L) /\ Hid (Blk wr g 88 .u32 L) /\ Hid (One wr (sb + 1) 85 (.int .u64 (c : Int))) /\ Hid (One wr sb 56 (.slice (some ⟨g, 0, none⟩) (N + 1) (N + 1))) /\ Hid (Below g w wr)) (fun i _ => N + 1 - (intOf i).toNat)
   case atStart => exact ⟨k, c, L, Nat.le_refl _, by omega, rfl, hI, hbl, hcb, hsb, hB⟩
   case round =>
    clear hI hbl hcb hsb hB hgw; obtain ⟨m, c2, L2, hm1, hm2, rfl, hI, hbl, hcb, hsb, hB⟩ := hrel; have hgw := hbl.o.lt; have ccb := hcb.o.cell; have hYk : B.length <= m := by rw [HM.o]; exact hm1
    by_cases hc0 : c2 = 0
    ·subst hc0
     have csb := hsb.o.cell; have hlen2 := hI.o.len; have Htr := hZ (qB1 (.slice (some ⟨g, 0, none⟩) (N + 1) (N + 1)) L2 wr (by
      have := qAd.of_blk hbl.o (cap := N + 1) (by omega) (by omega); rw [hlen2] at this; exact this) hI.o.low (by omega))
     rw [hI.o.done hYk] at Htr; clear hlen2
     go_wp2_with (go_at_call 58; refine Htr.o.mono ?_; rintro e w6 ⟨v6, rfl, q1, rfl⟩; have Q1 := hZ q1; clear q1)
     go_ret; exact ⟨_, rfl, Q1.o, by rw [Hg.o]; exact hB.o⟩
    ·have hmN := hI.o.room HlA.o HlB.o HN.o (by rw [HM.o]; omega) hm2 hYk hc0
     have hkl : m < L2.length := by rw [hI.o.len]; omega
     have Hnext := hZ (hI.o.over hkl hYk); have hc1 := hI.o.c1; have Hp := hZ (qD1 m (N + 1) g (sb + 1) sb c2 0 L2 wr hI.o.len hkl (by omega) hbl.o hcb.o hsb.o (by omega) (by omega) (by omega) (by omega) (by omega) hI.o.low); have hcpos : 0 < c2 := by omega
     clear hc0
     go_wp2_with (go_at_call 90; refine Hp.o.mono ?_; rintro e w5 ⟨⟨v5, rfl⟩, q1, q2, q3, q4⟩; have Q1 := hZ q1; have Q2 := hZ q2; have Q3 := hZ q3; have Q4 := hZ q4; clear q1 q2 q3 q4)
     go_roundw
     case rel => exact ⟨m + 1, _, _, by omega, by omega, by go_num, Hnext, Q1, Q2, Q3, hZ (Q4.o.below hB.o (by omega) (fun b e => by rcases e with e | e <;> omega))⟩
     case measure => simp [intOf]; omega
theorem qKO (va vb : Value) (A B : List Nat) (w : World) (ha : qAd .u32 w va A) (hb : qAd .u32 w vb B) (hA : Low W2 A) (hB : Low W2 B) (hl : A.length < B.length) (hlen : B.length <= 1048576) :
 Calls Try.prog 63 #[va, vb] w fun e w' => ∃ v, e = .returned v /\ qAd .u32 w' v (qAe W2 (val W2 A + val W2 B)) /\ Below w.heap.size w w' := by
 obtain ⟨i0, hi, hz0, hz1, hz2⟩ := info_parts qDS; have Hi := hZ hi; have Hz0 := hZ hz0; have Hz1 := hZ hz1; have Hz2 := hZ hz2; clear hi hz0 hz1 hz2; have HX0 := hZ hb; have HY0 := hZ ha; obtain ⟨xa, xcap, hvx, x1, x2, _⟩ := hb; obtain ⟨ya, ycap, hvy, y1, y2, hyc⟩ := ha; subst hvx hvy; have Hyc := hZ hyc; have HlA := hZ hB; have HlB := hZ hA; have hYlow := hA; clear hyc hA hB; obtain ⟨N, hN⟩ := eX B.length; obtain ⟨M, hM⟩ := eX A.length; have HN := hZ hN; have HM := hZ hM; rw [hN] at x1 HX0 hlen hl; rw [hM] at y1 HY0 hl; rw [hN, hM]; clear hN hM; have hMl : M <= N := by omega
 have HYl := hZ hYlow; clear hYlow
 go_enter Try.func63, Try.ntmps63
 go_wp2_with (at_make; refine qAy _ rfl _ _ 56 rfl 88 i0 .u32 Try.underlying56 Hi.o Hz0.o Hz1.o _ _ _ _ (N + 1) rfl rfl (by omega) (by omega) (by rw [Hz2.o]; omega) (by omega) ?_)
 intro w1 hblk hB1 hz1; obtain ⟨g, hg⟩ := eX w.heap.size; have Hg := hZ hg; rw [hg] at hblk hB1 hz1 ⊢; clear hg; have Hblk1 := hZ (hblk.alloc (.cells #[.slice (some ⟨g, 0, none⟩) (N + 1) (N + 1)] 56)); have HB2 := hZ (hB1.alloc (Nat.le_of_lt hz1) (.cells #[.slice (some ⟨g, 0, none⟩) (N + 1) (N + 1)] 56)); have HX1 := hZ ((HX0.o.below (by rw [Hg.o]; exact Nat.le_refl _) HB2.o)); clear hblk hB1
 go_wp2_with (with_reducible refine qBR rfl (.tmp 22) (.tmp 23) 56 rfl 88 Try.underlying56 qIK .u32 g (N + 1) (N + 1) (List.replicate (N + 1) 0) B xa N xcap rfl rfl Hblk1.o (List.length_replicate ..) HN.o (Nat.le_succ _) HX1.o ?_)
 intro w3 hb3 hO3 hs3; obtain ⟨sb, hsb⟩ := eX w1.heap.size; have hgs : g < sb := by omega
 have hs3' : w3.heap.size = sb + 1 := by rw [<- hsb]; simpa using hs3
 have Hsb3 := hZ (hO3.one (One.new w1 56 (.slice (some ⟨g, 0, none⟩) (N + 1) (N + 1))) (by omega)); have HB3 := hZ (hO3.below HB2.o (by simp; omega) (fun b e => by rw [e]; exact Nat.le_refl _)); have HY3 := hZ (HY0.o.below (by rw [Hg.o]; exact Nat.le_refl _) HB3.o); rw [hsb] at Hsb3 ⊢; have hL3 : B ++ (List.replicate (N + 1) 0).drop B.length = B ++ [0] := by
  rw [HN.o, List.drop_replicate, show N + 1 - N = 1 by omega]; rfl
 have Hb3 : Hid (Blk w3 g 88 .u32 (B ++ [0])) := hZ (by rw [<- hL3]; simpa using hb3); clear hb3 hO3 hs3 hsb hL3 Hblk1 HB2 HX1 HX0
 go_wp2_with fail
 have hcb0 := One.new w3 85 (.int .u64 0); rw [hs3'] at hcb0; obtain ⟨w4, hw4⟩ := eX (w3.alloc (.cells #[.int .u64 0] 85)); have Hb4 := hZ (Hb3.o.alloc (.cells #[.int .u64 0] 85)); have Hsb4 := hZ (Hsb3.o.alloc (.cells #[.int .u64 0] 85)); have HB4 := hZ (HB3.o.alloc (by omega) (.cells #[.int .u64 0] 85)); have Hcb4 := hZ hcb0; rw [hw4] at Hb4 Hsb4 HB4 Hcb4 ⊢; have Hs4 : Hid (w4.heap.size = sb + 1 + 1) := hZ (by rw [<- hw4, World.size_alloc, hs3']); clear hcb0 hw4 Hb3 Hsb3 HB3 hs3' HY3; have HI0 := hZ (qCk.start B A N HN.o HlA.o)
 go_loopw [28] (fun i wr => ∃ (k c : Nat) (L : List Nat), k <= M /\ i = .int .i64 k /\ Hid (qCk B A N k c L) /\ Hid (Blk wr g 88 .u32 L) /\ Hid (One wr (sb + 1) 85 (.int .u64 (c : Int))) /\ Hid (One wr sb 56 (.slice (some ⟨g, 0, none⟩) (N + 1) (N + 1))) /\ Hid (Below g w wr)) (fun i _ => M - (intOf i).toNat)
 case atStart => exact ⟨0, 0, _, by omega, rfl, HI0, Hb4, Hcb4, Hsb4, HB4⟩
 case round =>
  obtain ⟨k, c, L, hk, rfl, hI, hbl, hcb, hsb, hB⟩ := hrel; have hgw := hbl.o.lt; by_cases hlt : k < M
  ·have hy : k < A.length := by rw [HM.o]; exact hlt
   have hkl : k < L.length := by rw [hI.o.len]; omega
   obtain ⟨b, off, rfl, hb, hcc⟩ := Hyc.o (by omega); rw [Hg.o] at hb; have cy := (hB.o.cell (p := ⟨b, off + k, none⟩) hb).trans (hcc k hy); have hyl : A[k] < 4294967296 := HlB.o _ (List.getElem_mem hy); have Hnext := hZ (hI.o.next hkl hy HlB.o); have hc1 := hI.o.c1; have Hp := hZ (qD1 k (N + 1) g (sb + 1) sb c A[k] L wr hI.o.len hkl (by omega) hbl.o hcb.o hsb.o (by omega) (by omega) (by omega) (by omega) hyl hI.o.low); clear hcc; generalize A[k] = y at *
   go_wp2_with (go_at_call 90; refine Hp.o.mono ?_; rintro e w5 ⟨⟨v5, rfl⟩, q1, q2, q3, q4⟩; have Q1 := hZ q1; have Q2 := hZ q2; have Q3 := hZ q3; have Q4 := hZ q4; clear q1 q2 q3 q4)
   go_roundw
   case rel => exact ⟨k + 1, _, _, by omega, by go_num, Hnext, Q1, Q2, Q3, hZ (Q4.o.below hB.o (by omega) (fun b e => by rcases e with e | e <;> omega))⟩
   case measure => simp [intOf]; omega
  ·obtain rfl : k = M := by omega
   clear hlt
   go_wp2_with fail
   obtain ⟨wo, rfl⟩ := eY wr
   go_loopw [10] (fun i wr => ∃ (m c : Nat) (L : List Nat), k <= m /\ m <= N + 1 /\ i = .int .i64 m /\ Hid (qCk B A N m c L) /\ Hid (Blk wr g 88 .u32 L) /\ Hid (One wr (sb + 1) 85 (.int .u64 (c : Int))) /\ Hid (One wr sb 56 (.slice (some ⟨g, 0, none⟩) (N + 1) (N + 1))) /\ Hid (Below g w wr)) (fun i _ => N + 1 - (intOf i).toNat)
   case atStart => exact ⟨k, c, L, Nat.le_refl _, by omega, rfl, hI, hbl, hcb, hsb, hB⟩
   case round =>
    clear hI hbl hcb hsb hB hgw; obtain ⟨m, c2, L2, hm1, hm2, rfl, hI, hbl, hcb, hsb, hB⟩ := hrel; have hgw := hbl.o.lt; have ccb := hcb.o.cell; have hYk : A.length <= m := by rw [HM.o]; exact hm1
    by_cases hc0 : c2 = 0
    ·subst hc0
     have csb := hsb.o.cell; have hlen2 := hI.o.len; have Htr := hZ (qB1 (.slice (some ⟨g, 0, none⟩) (N + 1) (N + 1)) L2 wr (by
      have := qAd.of_blk hbl.o (cap := N + 1) (by omega) (by omega); rw [hlen2] at this; exact this) hI.o.low (by omega))
     rw [hI.o.done hYk] at Htr; clear hlen2
     go_wp2_with (go_at_call 58; refine Htr.o.mono ?_; rintro e w6 ⟨v6, rfl, q1, rfl⟩; have Q1 := hZ q1; clear q1)
     go_ret; exact ⟨_, rfl, by have h9 := Q1.o; rw [Nat.add_comm (val W2 B)] at h9; exact h9, by rw [Hg.o]; exact hB.o⟩
    ·have hmN := hI.o.room HlA.o HlB.o HN.o (by rw [HM.o]; omega) hm2 hYk hc0
     have hkl : m < L2.length := by rw [hI.o.len]; omega
     have Hnext := hZ (hI.o.over hkl hYk); have hc1 := hI.o.c1; have Hp := hZ (qD1 m (N + 1) g (sb + 1) sb c2 0 L2 wr hI.o.len hkl (by omega) hbl.o hcb.o hsb.o (by omega) (by omega) (by omega) (by omega) (by omega) hI.o.low); have hcpos : 0 < c2 := by omega
     clear hc0
     go_wp2_with (go_at_call 90; refine Hp.o.mono ?_; rintro e w5 ⟨⟨v5, rfl⟩, q1, q2, q3, q4⟩; have Q1 := hZ q1; have Q2 := hZ q2; have Q3 := hZ q3; have Q4 := hZ q4; clear q1 q2 q3 q4)
     go_roundw
     case rel => exact ⟨m + 1, _, _, by omega, by omega, by go_num, Hnext, Q1, Q2, Q3, hZ (Q4.o.below hB.o (by omega) (fun b e => by rcases e with e | e <;> omega))⟩
     case measure => simp [intOf]; omega
def qAT (w : World) (v : Value) (n : Nat) : Prop := qAd .u32 w v (qAe W2 n)
theorem qHB (va vb : Value) (m n : Nat) (w : World) (ha : qAT w va m) (hb : qAT w vb n) (hl1 : (qAe W2 m).length <= 1048576) (hl2 : (qAe W2 n).length <= 1048576) :
 Calls Try.prog 63 #[va, vb] w fun e w' => ∃ v, e = .returned v /\ qAT w' v (m + n) /\ Below w.heap.size w w' := by
 have key : Calls Try.prog 63 #[va, vb] w fun e w' => ∃ v, e = .returned v /\ qAd .u32 w' v (qAe W2 (val W2 (qAe W2 m) + val W2 (qAe W2 n))) /\ Below w.heap.size w w' := by
  by_cases h : (qAe W2 m).length < (qAe W2 n).length
  ·exact qKO va vb _ _ w ha hb (qAl W2 qAm m) (qAl W2 qAm n) h hl2
  ·exact qKP va vb _ _ w ha hb (qAl W2 qAm m) (qAl W2 qAm n) (by omega) hl1
 rw [qAi W2 qAm, qAi W2 qAm] at key; exact key
end Go.Proofs.Ytlmbebbdamgfpaa
