/- the reference's integers: Compare. -/
import Derived.Test.YtkjhlkngihponaaGreatDoorQVWString
import Derived.Test.YtkjhlkngihponaaGreatDoorQVYLBas
import Derived.Test.YtkjhlkngihponaaGreatDoorQVRegLast
import Derived.Shelf.Strings.BuilderK
import Derived.Deep.CutRange
import Derived.Deep.CutBlock
import Derived.Test.YtkjhlkngihponaaGreatDoorQVWDiv
import Derived.Test.YtkjhlkngihponaaGreatDoorQVGMath
import Derived.Test.YtkjhlkngihponaaGreatDoorQVLHnf
import Derived.Laws.OwnMore
import Derived.Deep.AppendLies
set_option linter.unusedVariables false
set_option linter.unusedSimpArgs false
set_option maxHeartbeats 8000000
set_option maxRecDepth 100000
namespace Go.Proofs.YtkjhlkngihponaaGreatDoor
open Go.RowKit
abbrev qFm (B b : Nat) (t : Tx) (w : World) : Prop := Lib.IsBuilderF 97 5 B b (Lib.byteCells t) w
theorem qBp (B b : Nat) (t : Tx) (s : Tx) (w : World) (h : qFm B b t w) (hlen : t.length + s.length <= 100000000) (hBw : B <= w.heap.size) :
 Calls Tryz.prog 63 #[.pointer (some ⟨b, 0, none⟩), .string ⟨s.toArray⟩] w fun e w' => (∃ v, e = .returned v) /\ qFm B b (t ++ s) w' /\ Below B w w' /\ Lib.OthersKept 5 (some b) w w' := by
 refine (Any.Builder_WriteString_k qLB qFR B b (Lib.byteCells t) ⟨s.toArray⟩ w h (by rw [Lib.byteCells, List.length_map]; show t.length + s.toArray.size <= _; simp; omega) hBw).mono ?_; rintro e w' ⟨rfl, h1, h2, h3⟩; refine ⟨⟨_, rfl⟩, .inr ?_, h2, h3⟩; have h2 : Lib.BuilderAtF 97 5 B b (.pointer (some ⟨b, 0, none⟩)) (Lib.byteCells t ++ Lib.byteCells s) w' := h1; rw [show Lib.byteCells (t ++ s) = Lib.byteCells t ++ Lib.byteCells s by simp [Lib.byteCells]]; exact h2
theorem qFm.blk {B b : Nat} {t : Tx} {w : World} (h : qFm B b t w) : B <= b /\ ∃ cs fz, w.heap[b]? = some (.cells cs 97 fz) := by
 rcases h with ⟨h1, v, h2, _⟩ | ⟨h1, v, h2, _⟩ <;> exact ⟨h1, _, _, h2⟩
theorem qFm.only {S : Nat -> Prop} {B b : Nat} {t : Tx} {w w' : World} (h : qFm B b t w) (ho : qAc S w w') (hS : ∀ g cs fz, w.heap[g]? = some (.cells cs 5 fz) -> ¬ S g) (hb : ¬ S b) : qFm B b t w' := by
 have key : ∀ p, Lib.BuilderAtF 97 5 B b p (Lib.byteCells t) w -> Lib.BuilderAtF 97 5 B b p (Lib.byteCells t) w' := by
  rintro p ⟨h1, v, h2, ⟨hl, ho9⟩, h4⟩; refine ⟨h1, v, (ho.block _ (Array.getElem?_eq_some_iff.1 h2).1 hb).trans h2, ⟨hl, ?_⟩, h4⟩; rcases ho9 with ho9 | ⟨g, cap, cur, fz, hv, hg, hh, hr⟩
  ·exact .inl ho9
  ·exact .inr ⟨g, cap, cur, fz, hv, hg, (ho.block _ (Array.getElem?_eq_some_iff.1 hh).1 (hS g cur fz hh)).trans hh, hr⟩
 rcases h with h | h
 ·exact .inl (key _ h)
 ·exact .inr (key _ h)
theorem qFm.blw {B b : Nat} {t : Tx} {w w' : World} (h : qFm B b t w) (hB : Below w.heap.size w w') : qFm B b t w' := h.only (S := fun _ => False) (qAc.of_below hB) (fun _ _ _ _ h => h) (fun h => h)
instance {B b : Nat} {t : Tx} {w w' : World} : Mv w w' (qFm B b t w) (qFm B b t w') := ⟨fun hb h => qFm.blw h hb⟩
theorem qGf {b g : Nat} {w w' : World} {cs : Array Value} {t : TypeId} {fz : Nat × Nat} (hk : Lib.OthersKept 5 (some b) w w') (h : w.heap[g]? = some (.cells cs t fz)) (ht : t ≠ 5) (hg : g ≠ b) : w'.heap[g]? = some (.cells cs t fz) :=
 hk g _ h (by simpa using hg) (fun c f e => by injection e with _ e _; exact ht e)
structure qKx (w0 W : World) (B bb g : Nat) (t : Tx) (z : Int) : Prop where
 bel : Below B w0 W
 bld : qFm B bb t W
 box : ∃ s a n c, Two W g 73 (.bool s) (.slice a n c) /\ qAq W (.agg #[.bool s, .slice a n c]) z /\ qKw W (.slice a n c)
theorem qKx.write {w0 W W' : World} {B bb g : Nat} {t s : Tx} {z : Int} (h : qKx w0 W B bb g t z) (h0 : B = w0.heap.size) (hb : qFm B bb (t ++ s) W') (hB : Below B W W') (hk : Lib.OthersKept 5 (some bb) W W') : qKx w0 W' B bb g (t ++ s) z := by
 obtain ⟨s9, a, n, c, h1, h2, h3⟩ := h.box; obtain ⟨hbb, cs, fz, hcs⟩ := h.bld.blk; have hg : g ≠ bb := fun e => by subst e; unfold Two at h1; rw [h1] at hcs; injection hcs with hcs; injection hcs with _ hcs _; exact absurd hcs (by decide)
 refine ⟨h.bel.trans (hB.mono (by omega)), hb, s9, a, n, c, qGf hk h1 (by decide) hg, ?_, ?_⟩
 ·obtain ⟨vw, hv, a', c', rfl, k1, k2, k3⟩ := h2
  refine ⟨_, hv, a', c', rfl, k1, k2, fun h0 => ?_⟩; obtain ⟨g', o, rfl, hl, hc⟩ := k3 h0; injection hv with hv; injection hv with hv; injection hv with _ hv; injection hv with hv _; injection hv with e1 e2 e3; subst e1; obtain ⟨cs', fz', h4⟩ := h3 g' o n c rfl; have hgb : g' ≠ bb := fun e => by subst e; rw [h4] at hcs; injection hcs with hcs; injection hcs with _ hcs _; exact absurd hcs (by decide)
  have h5 := qGf hk h4 (by decide) hgb; refine ⟨g', o, rfl, (Array.getElem?_eq_some_iff.1 h5).1, fun j hj => ?_⟩; rw [World.cell?_of_block (w := W) (h5.trans h4.symm)]; exact hc j hj
 ·intro g' o n' c' e
  obtain ⟨cs', fz', h4⟩ := h3 g' o n' c' e; have hgb : g' ≠ bb := fun e => by subst e; rw [h4] at hcs; injection hcs with hcs; injection hcs with _ hcs _; exact absurd hcs (by decide)
  exact ⟨cs', fz', qGf hk h4 (by decide) hgb⟩
theorem qKx.blw {w0 W W' : World} {B bb g : Nat} {t : Tx} {z : Int} (h : qKx w0 W B bb g t z) (h0 : B = w0.heap.size) (hB : Below W.heap.size W W') : qKx w0 W' B bb g t z := by
 obtain ⟨s9, a, n, c, h1, h2, h3⟩ := h.box; exact ⟨h.bel.trans (hB.mono (by have := h.bel.size; omega)), h.bld.blw hB, s9, a, n, c, h1.below hB h1.lt, h2.below hB, h3.below hB⟩
theorem qKx.put {w0 W : World} {B bb g : Nat} {t : Tx} {z z' : Int} (h : qKx w0 W B bb g t z) (h0 : B = w0.heap.size) (hg : B <= g) {s : Bool} {a : Option Addr} {n c : Nat} (hv : qAq W (.agg #[.bool s, .slice a n c]) z') (ht : qKw W (.slice a n c)) : qKx w0 ((W.setCell ⟨g, 0, none⟩ (.bool s)).setCell ⟨g, 1, none⟩ (.slice a n c)) B bb g t z' := by
 obtain ⟨s9, a9, n9, c9, h1, h2, h3⟩ := h.box; have ho : qAc (fun b => b = g) W ((W.setCell ⟨g, 0, none⟩ (.bool s)).setCell ⟨g, 1, none⟩ (.slice a n c)) := ((qAc.refl (fun b => b = g) W).set (p := ⟨g, 0, none⟩) rfl _).set (p := ⟨g, 1, none⟩) rfl _; obtain ⟨hbb, cs, fz, hcs⟩ := h.bld.blk; refine ⟨ho.below h.bel (by have := h.bel.size; omega) (fun k e => by omega), h.bld.only ho (fun g' cs' fz' h9 e => ?_) (fun e => ?_), s, a, n, c, h1.set0 _ _, ?_, ht.far2 h1 (by decide) _ _⟩
 ·subst e; unfold Two at h1; rw [h1] at h9; injection h9 with h9; injection h9 with _ h9 _; exact absurd h9 (by decide)
 ·subst e; unfold Two at h1; rw [h1] at hcs; injection hcs with hcs; injection hcs with _ hcs _; exact absurd hcs (by decide)
 ·obtain ⟨vw, hv1, hm⟩ := hv
  exact ⟨vw, hv1, qAb.store_two hm h1 (fun _ _ h => by cases h) (fun _ _ h => by cases h) _ _⟩
structure qP1 (w0 : World) (B bb bc : Nat) (vw : Value) (ws : List Int) (vi vr : Value) (N : List Tx) : Prop where
 h0 : B = w0.heap.size
 hw : qAk w0 vw ws
 h64 : B64 ws
 len : ws.length = N.length
 n6 : N.length <= 6
 nl : ∀ n ∈ N, n.length <= 1000
 it : qBX w0 vi N
 bx : qCp w0 bc vi vr
 pow : qDa w0
theorem qMS (w0 w : World) (B bb bc : Nat) (vw : Value) (ws : List Int) (vi vr : Value) (N : List Tx) (acc : Tx) (hE : qP1 w0 B bb bc vw ws vi vr N) (hb : qFm B bb acc w) (hB : Below B w0 w) (hacc : acc.length <= 1000000) :
 Calls Tryz.prog 60 #[vw, .pointer (some ⟨bb, 0, none⟩), .pointer (some ⟨bc, 0, none⟩)] w fun e w' => (∃ v, e = .returned v) /\ qFm B bb (acc ++ (qKe N ws ++ [10])) w' /\ Below B w0 w' := by
 have HE := hZ hE; have HBL := hZ hb; have HB := hZ hB; have hn6 := hE.n6; obtain ⟨aw, cw, rfl, hw1, hw2⟩ := hE.hw.form; obtain ⟨ai, ci, rfl, hi1, hi2⟩ := qAf.form hE.it; obtain ⟨n, hn⟩ := eX N.length; have Hn := hZ hn; have hwn := hE.len; have HWn := hZ hwn; rw [hn] at hn6 hwn; rw [hwn] at hw1 ⊢; have HWN := hZ hwn; have HLE : Hid (∀ k, k <= n -> (lnT N ws k).length <= 6600) := hZ (fun k hk => by have := qLs hE.nl hE.h64 k; omega); clear hb hB hn hE hwn
 go_enter Tryz.func60, Tryz.ntmps60
 go_wp2_with fail
 go_loopw [10, 4] (fun iv ev wr => ∃ k : Nat, k <= n /\ iv = .int .i64 k /\ ev = .bool (decide (lnT N ws k = [])) /\ Hid (qFm B bb (acc ++ lnT N ws k) wr) /\ Hid (Below B w0 wr)) (fun iv _ _ => n - (intOf iv).toNat)
 case atStart => exact ⟨0, by omega, rfl, rfl, by simpa [lnT] using HBL, HB⟩
 case round =>
  clear HBL HB; obtain ⟨k, hk, rfl, rfl, HBL, HB⟩ := hrel; obtain ⟨w1, rfl⟩ := eY wr; by_cases hlt : k < n
  ·have i1 : (0 : Int) <= (k : Int) := by omega
   have i2 : (k : Int) < (n : Int) := by omega
   have hkw : k < ws.length := by have := HWN.o; omega
   have hB0 : Below w0.heap.size w0 w1 := by rw [<- HE.o.h0]; exact HB.o
   obtain ⟨b1, cap1, hv1, hb1, y0⟩ := qAk.at_ (HE.o.hw.below hB0) k hkw; injection hv1 with e1 e2 e3; subst e1; clear e2 e3; have hx64 := HE.o.h64.at_ k hkw; have HG : Hid (ws.getD k 0 = ws[k]) := hZ (by rw [List.getD_eq_getElem?_getD, List.getElem?_eq_getElem hkw]; rfl); obtain ⟨x, hx⟩ := eX (ws[k]); rw [hx] at y0 hx64 HG; have HX64 := hZ hx64; clear hx hx64 hB0; obtain ⟨t, ht⟩ := eX (lnT N ws k); have HT := hZ ht; rw [ht] at HBL ⊢; have htl : t.length <= 6600 := by rw [<- ht]; exact HLE.o k hk
   clear ht; by_cases hx0 : x = 0
   ·have HZ : Hid (lnT N ws (k + 1) = t) := hZ (by rw [qMR (by rw [HG.o, hx0]), HT.o])
    subst hx0
    go_wp2_with fail
    go_roundw
    case rel => exact ⟨k + 1, by omega, by go_num, by rw [HZ.o], by rw [HZ.o]; exact HBL, HB⟩
    case measure => simp [intOf]; omega
   ·have q0 : (x == 0) = false := by simpa using hx0
    have HA : Hid (lnT N ws (k + 1) = t ++ (qKX (decide (t = [])) (decide (x < 0)) ++ (dec x.natAbs ++ 32 :: N.getD k []))) := hZ (by rw [qLt (by rw [HG.o]; exact hx0), HT.o, HG.o]); have HNE : Hid (lnT N ws (k + 1) ≠ []) := hZ (qPd (by rw [HG.o]; exact hx0)); clear hx0
    go_wp2_with fail
    clear y0 q0; refine (qJg x w1 HX64.o.1 HX64.o.2).mono ?_; rintro e w2 ⟨sb, vr2, rfl, hI2, ht2, hB2⟩; obtain ⟨a2, n2, c2, hv2, -⟩ := hI2.form; injection hv2 with hv2; injection hv2 with hv2; injection hv2 with e1 hv2; injection hv2 with e2 _; subst e1 e2; obtain ⟨g, hg⟩ := eX w2.heap.size; obtain ⟨s2, hs2⟩ := eX (decide (x < 0)); rw [hs2] at hI2 ⊢; obtain ⟨w3, hw3⟩ := eX (w2.alloc (.cells #[.bool s2, .slice a2 n2 c2] 73)); have hB3 : Below w2.heap.size w2 w3 := by rw [<- hw3]; exact aR
    have hBs := HB.o.size; have hgB : B <= g := by have := hB2.size; have := HE.o.h0; omega
    have HL : Hid (qKx w0 w3 B bb g (acc ++ t) x) := hZ ⟨(HB.o.trans (hB2.mono (by have := HE.o.h0; omega))).trans (hB3.mono (by omega)), (HBL.o.blw hB2).blw hB3, s2, a2, n2, c2, by rw [<- hw3, <- hg]; exact Two.new _ _ _ _, hI2.below hB3, ht2.below hB3⟩; clear hs2 hI2 ht2 hB2 hB3 HBL HB hBs
    go_upto_if 20 with fail
    go_cut [] from 11 to 53 (fun wc => Hid (qKx w0 wc B bb g (acc ++ t) (x.natAbs : Int)))
    case first =>
     by_cases hx : x < 0
     ·have q1 : decide (x < 0) = true := decide_eq_true hx
      have HX := hZ hx; rw [q1]; clear hx q1; obtain ⟨s9, a9, n9, c9, h1, h2, h3⟩ := HL.o.box; have d0 := h1.cell0; have d1 := h1.cell1; have H2 := hZ h2; clear h1 h2 h3
      try rw [hw3]
      clear hw3
      go_wp2_with fail
      clear d0 d1; refine (qLm _ x w3 H2.o (qGh x HX64.o)).mono ?_; rintro e w4 ⟨sb, vr4, rfl, hI4, ht4, hB4⟩; obtain ⟨a4, n4, c4, hv4, -⟩ := hI4.form; injection hv4 with hv4; injection hv4 with hv4; injection hv4 with e1 hv4; injection hv4 with e2 _; subst e1 e2; obtain ⟨s4, hs4⟩ := eX (decide (-x < 0)); rw [hs4] at hI4 ⊢; replace HL := hZ (HL.o.blw HE.o.h0 hB4); obtain ⟨s8, a8, n8, c8, k1, -, -⟩ := HL.o.box; have d0 := k1.cell0; have d1 := k1.cell1; have f0 := k1.frozen 0; have f1 := k1.frozen 1; obtain ⟨w5, hw5⟩ := eX ((w4.setCell ⟨g, 0, none⟩ (.bool s4)).setCell ⟨g, 1, none⟩ (.slice a4 n4 c4)); have hput := HL.o.put HE.o.h0 hgB hI4 ht4; rw [hw5] at hput; have e9 : ((x.natAbs : Nat) : Int) = -x := by have := HX.o; omega
      have HL5 : Hid (qKx w0 w5 B bb g (acc ++ t) (x.natAbs : Int)) := hZ (by rw [e9]; exact hput); clear e9; clear hput hs4 hI4 ht4 hB4 k1
      go_wp2_with fail
      try rw [hw5]
      clear hw5 d0 d1 f0 f1
      go_meet
      case rel => exact HL5
     ·have q1 : decide (x < 0) = false := decide_eq_false hx
      have e9 : ((x.natAbs : Nat) : Int) = x := by omega
      rw [q1]; clear hx q1
      try rw [hw3]
      go_wp2_with fail
      go_meet
      case rel => rw [e9]; exact HL
    case rest =>
     clear HL hw3; obtain ⟨w5, rfl⟩ := eY wc; have HL := hcut; clear hcut
     go_upto_block 2 with fail
     go_cut [4] from 11 to 53 (fun s4 wc => s4 = .bool (decide (t = [])) /\ Hid (qKx w0 wc B bb g (acc ++ (t ++ qKX (decide (t = [])) (decide (x < 0)))) (x.natAbs : Int)))
     case first =>
      have hle : (acc ++ t).length <= 1006600 := by rw [List.length_append]; omega
      by_cases he : t = []
      ·have q1 : decide (t = []) = true := decide_eq_true he
       rw [q1]; by_cases hx : x < 0
       ·have q2 : decide (x < 0) = true := decide_eq_true hx
        have e1 : qKX true true = [45] := rfl; clear he hx
        go_wp2_with fail
        refine (qBp B bb (acc ++ t) ([45]) _ HL.o.bld (by first | omega | (simp only [List.length_cons, List.length_nil, List.length_append] at hle ⊢; omega)) (by have := HL.o.bel.size; have := HE.o.h0; omega)).mono ?_; rintro e wz ⟨⟨v9, rfl⟩, hb9, hB9, hk9⟩; replace HL := hZ (HL.o.write HE.o.h0 hb9 hB9 hk9); clear hb9 hB9 hk9
        go_wp2_with fail
        go_meet
        case rel => exact ⟨by rw [q1], by rw [q1, q2, e1, <- List.append_assoc]; exact HL⟩
       ·have q2 : decide (x < 0) = false := decide_eq_false hx
        have e1 : qKX true false = [] := rfl; clear he hx
        go_wp2_with fail
        go_meet
        case rel => exact ⟨by rw [q1], by rw [q1, q2, e1, List.append_nil]; exact HL⟩
      ·have q1 : decide (t = []) = false := decide_eq_false he
       rw [q1]; by_cases hx : x < 0
       ·have q2 : decide (x < 0) = true := decide_eq_true hx
        have e1 : qKX false true = [32, 45, 32] := rfl; clear he hx
        go_wp2_with fail
        refine (qBp B bb (acc ++ t) ([32, 45, 32]) _ HL.o.bld (by first | omega | (simp only [List.length_cons, List.length_nil, List.length_append] at hle ⊢; omega)) (by have := HL.o.bel.size; have := HE.o.h0; omega)).mono ?_; rintro e wz ⟨⟨v9, rfl⟩, hb9, hB9, hk9⟩; replace HL := hZ (HL.o.write HE.o.h0 hb9 hB9 hk9); clear hb9 hB9 hk9
        go_wp2_with fail
        go_meet
        case rel => exact ⟨by rw [q1], by rw [q1, q2, e1, <- List.append_assoc]; exact HL⟩
       ·have q2 : decide (x < 0) = false := decide_eq_false hx
        have e1 : qKX false false = [32, 43, 32] := rfl; clear he hx
        go_wp2_with fail
        refine (qBp B bb (acc ++ t) ([32, 43, 32]) _ HL.o.bld (by first | omega | (simp only [List.length_cons, List.length_nil, List.length_append] at hle ⊢; omega)) (by have := HL.o.bel.size; have := HE.o.h0; omega)).mono ?_; rintro e wz ⟨⟨v9, rfl⟩, hb9, hB9, hk9⟩; replace HL := hZ (HL.o.write HE.o.h0 hb9 hB9 hk9); clear hb9 hB9 hk9
        go_wp2_with fail
        go_meet
        case rel => exact ⟨by rw [q1], by rw [q1, q2, e1, <- List.append_assoc]; exact HL⟩
     case rest =>
      clear HL; obtain ⟨w6, rfl⟩ := eY wc; obtain ⟨rfl, HL⟩ := hcut; obtain ⟨u, hu⟩ := eX (t ++ qKX (decide (t = [])) (decide (x < 0))); have HU := hZ hu; have hul : u.length <= 6603 := by rw [<- hu, List.length_append]; have := qKW (decide (t = [])) (decide (x < 0)); omega
      rw [hu] at HL; clear hu; have hd20 : (dec x.natAbs).length <= 20 := qJt HX64.o; have hB6 : Below w0.heap.size w0 w6 := by rw [<- HE.o.h0]; exact HL.o.bel
      have hkN : k < N.length := by have := Hn.o; omega
      obtain ⟨bi, cap, hvi, hbi, hic⟩ := (HE.o.it.below hB6).at_ k hkN; injection hvi with e1 _ e3; subst e1 e3; have HGN : Hid (N.getD k [] = N[k]) := hZ (by rw [List.getD_eq_getElem?_getD, List.getElem?_eq_getElem hkN]; rfl); have hnm := HE.o.nl N[k] (List.getElem_mem hkN); have z0 := hic.c0; have hbx := HE.o.bx.below hB6; have z1 := hbx.c0; obtain ⟨nm, hnme⟩ := eX (N[k]); rw [hnme] at hnm z0 HGN; rw [Hn.o] at z1; have HBX := hZ hbx; have hbi6 := hbi; clear hnme hic hbx; obtain ⟨s9, a9, n9, c9, h1, h2, h3⟩ := HL.o.box; have d0 := h1.cell0; have d1 := h1.cell1; have H2 := hZ h2; have hI7 : (k : Int) < (n : Int) := by omega
      clear h1 h2 h3; have hpow := HE.o.pow.below hB6 HE.o.pow.lt; have HPW := hZ hpow; clear hpow hB6
      go_wp2_with fail
      refine qD5 99 (fun X => X.cell? ⟨bc, 0, none⟩ = some (.slice (some ⟨bi, 0, none⟩) n ci) /\ X.cell? ⟨bi, k * 7, none⟩ = some (.string ⟨nm.toArray⟩)) (by kernel_rfl) (⟨z1, z0⟩) (fun hHeld => ?_); refine kU 3 45 ?_; refine kU 4 46 ?_; refine kU 5 47 ?_; refine kU 6 48 ?_; refine kU 7 49 ?_; refine kU 8 50 ?_; refine qBO 0 (by kernel_rfl) rfl (fun K hK => ?_); go_simp
      go_wp2_with fail
      refine hK.out _ _ (hHeld) (fun hHeld => ?_); clear hK K
      try simp only [Act.put, List.setIfInBounds_toArray, List.set_cons_zero, List.set_cons_succ]
      have hdr : Below w6.heap.size w6 w6.drew := (Below.refl _ _).drew; have hstr := qJP _ (x.natAbs : Int) w6.drew (H2.o.below hdr) (by show x.natAbs < LIM; exact qGh x HX64.o) (HPW.o.below hdr HPW.o.lt); have hdz : qPD (x.natAbs : Int) = dec x.natAbs := by unfold qPD; rw [if_neg (by omega)]; rfl
      rw [hdz] at hstr; obtain ⟨D, hD⟩ := eX (dec x.natAbs); rw [hD] at hstr hd20; have HD := hZ hD; clear hD hdz; refine qBO 1 (by kernel_rfl) rfl (fun K hK => ?_); go_simp; refine hstr.mono ?_; clear hstr; rintro e w7 ⟨rfl, hB7⟩; have hB67 : Below w6.heap.size w6 w7 := hdr.trans hB7; replace HL := hZ (HL.o.blw HE.o.h0 hB67); have HS7 : Hid (w7.cell? ⟨bc, 0, none⟩ = some (.slice (some ⟨bi, 0, none⟩) n ci) /\ w7.cell? ⟨bi, k * 7, none⟩ = some (.string ⟨nm.toArray⟩)) := hZ ⟨(hB67.cell (p := ⟨bc, 0, none⟩) HBX.o.lt).trans z1, (hB67.cell (p := ⟨bi, k * 7, none⟩) hbi6).trans z0⟩; clear hHeld hB7 hB67 hdr z0 z1 d0 d1 H2 HPW; unfold sv
      go_wp2_with fail
      refine hK.out _ _ (HS7.o) (fun hHeld => ?_); clear hK K
      try simp only [Act.put, List.setIfInBounds_toArray, List.set_cons_zero, List.set_cons_succ]
      have hcat : (⟨D.toArray⟩ : ByteArray) ++ ⟨#[32]⟩ ++ ⟨nm.toArray⟩ = ⟨(D ++ 32 :: nm).toArray⟩ := by
       have e1 : (⟨#[32]⟩ : ByteArray) = ⟨([32] : Tx).toArray⟩ := rfl; rw [e1, qDZ, qDZ, List.append_assoc]; rfl
      refine qNW 2 44 (v := .string (⟨D.toArray⟩ ++ ⟨#[32]⟩)) rfl rfl (by kernel_rfl) (by kernel_rfl) (by kernel_rfl) (by kernel_rfl) (fun _ _ _ h => h) (by rfl) ?_ (by assumption) ?_
      ·(intro w hSw; go_simp; omega)
      simp only [List.setIfInBounds_toArray, List.set_cons_zero, List.set_cons_succ]; refine qNW 9 51 (v := .string ⟨(D ++ 32 :: nm).toArray⟩) rfl rfl (by kernel_rfl) (by kernel_rfl) (by kernel_rfl) (by kernel_rfl) (fun _ _ _ h => h) (by rfl) ?_ (by assumption) ?_
      ·(intro w hSw; go_simp; omega)
      simp only [List.setIfInBounds_toArray, List.set_cons_zero, List.set_cons_succ]; have hle : (acc ++ u).length + (D ++ 32 :: nm).length <= 100000000 := by simp only [List.length_append, List.length_cons]; omega
      have hwr := qBp B bb (acc ++ u) (D ++ 32 :: nm) w7 HL.o.bld hle (by have := HL.o.bel.size; have := HE.o.h0; omega); have hbcB : bc < B := by have := HE.o.bx.lt; have := HE.o.h0; omega
      obtain ⟨bi9, cap9, hvi9, hbi9, -⟩ := HE.o.it.at_ k hkN; injection hvi9 with e1 _ _; injection e1 with e1; injection e1 with e1 _ _; subst e1; refine qBO 10 (by kernel_rfl) rfl (fun K hK => ?_); go_simp; refine hwr.mono ?_; clear hwr; rintro e w8 ⟨⟨v9, rfl⟩, hb9, hB9, hk9⟩; have HB8 := hZ (HL.o.bel.trans hB9); have HBL8 : Hid (qFm B bb (acc ++ lnT N ws (k + 1)) w8) := hZ (by rw [HA.o, <- List.append_assoc t, HU.o, HD.o, HGN.o, <- List.append_assoc acc]; exact hb9); have HS8 : Hid (w8.cell? ⟨bc, 0, none⟩ = some (.slice (some ⟨bi, 0, none⟩) n ci) /\ w8.cell? ⟨bi, k * 7, none⟩ = some (.string ⟨nm.toArray⟩)) := hZ ⟨(hB9.cell (p := ⟨bc, 0, none⟩) hbcB).trans HS7.o.1, (hB9.cell (p := ⟨bi, k * 7, none⟩) (by have := HE.o.h0; show bi < B; omega)).trans HS7.o.2⟩; clear hHeld hb9 hB9 hk9 HL
      go_wp2_with fail
      refine hK.out _ _ (HS8.o) (fun hHeld => ?_); clear hK K
      try simp only [Act.put, List.setIfInBounds_toArray, List.set_cons_zero, List.set_cons_succ]
      refine qKm (by kernel_rfl) ?_ _; clear hHeld; have HF : Hid (decide (lnT N ws (k + 1) = []) = false) := hZ (decide_eq_false HNE.o)
      go_wp2_with fail
      go_roundw
      case rel => exact ⟨k + 1, by omega, by go_num, by rw [HF.o], HBL8, HB8⟩
      case measure => simp [intOf]; omega
  ·obtain rfl : k = n := by omega
   have HFN : Hid (qKe N ws = qHL (lnT N ws k)) := hZ (by unfold qKe; rw [HWN.o]); obtain ⟨t, ht⟩ := eX (lnT N ws k); rw [ht] at HBL HFN ⊢; have htl : t.length <= 6600 := by rw [<- ht]; exact HLE.o k (Nat.le_refl _)
   clear ht; have h0 := HE.o.h0; by_cases he : t = []
   ·have q1 : decide (t = []) = true := decide_eq_true he
    have HL1 : Hid (qHL t = [48]) := hZ (by unfold qHL; rw [if_pos he]); subst he; rw [List.append_nil] at HBL
    go_wp2_with fail
    clear q1; refine (qBp B bb acc [48] _ HBL.o (by simp only [List.length_cons, List.length_nil]; omega) (by have := HB.o.size; omega)).mono ?_; rintro e w3 ⟨⟨v3, rfl⟩, hb3, hB3, -⟩; have HB3 := hZ (HB.o.trans hB3); have HL3 := hZ hb3; clear hb3 hB3 HBL HB
    go_wp2_with fail
    refine (qBp B bb (acc ++ [48]) [10] _ HL3.o (by simp only [List.length_append, List.length_cons, List.length_nil]; omega) (by have := HB3.o.size; omega)).mono ?_; rintro e w4 ⟨⟨v4, rfl⟩, hb4, hB4, -⟩; have HB4 := hZ (HB3.o.trans hB4); have HL4 := hZ hb4; clear hb4 hB4 HL3 HB3
    go_wp2_with fail
    go_end0
    refine ⟨⟨_, rfl⟩, ?_, HB4.o⟩; rw [HFN.o, HL1.o, <- List.append_assoc]; exact HL4.o
   ·have q1 : decide (t = []) = false := decide_eq_false he
    have HL1 : Hid (qHL t = t) := hZ (by unfold qHL; rw [if_neg he]); clear he; rw [q1]; clear q1
    go_wp2_with fail
    refine (qBp B bb (acc ++ t) [10] _ HBL.o (by simp only [List.length_append, List.length_cons, List.length_nil]; omega) (by have := HB.o.size; omega)).mono ?_; rintro e w4 ⟨⟨v4, rfl⟩, hb4, hB4, -⟩; have HB4 := hZ (HB.o.trans hB4); have HL4 := hZ hb4; clear hb4 hB4 HBL HB
    go_wp2_with fail
    go_end0
    refine ⟨⟨_, rfl⟩, ?_, HB4.o⟩; rw [HFN.o, HL1.o, <- List.append_assoc]; exact HL4.o
def qNd (n : Nat) (l : List (List Int)) : Bool := l.all (fun r => decide (r.length = n))
def qEO (c : Cat) (l : List (List Int)) : Value := if qNd c.items.length l = true then .tuple #[sv (prT c.items l l.length), .int .i64 0] else .tuple #[sv [], .int .i64 1]
theorem qMc (B b : Nat) (t : Tx) (w : World) (h : qFm B b t w) (hBw : B <= w.heap.size) :
 Calls Tryz.prog 65 #[.pointer (some ⟨b, 0, none⟩)] w fun e w' => e = .returned (sv t) /\ Below B w w' := by
 refine (Any.Builder_String_any_f qLA qFR B b t w h hBw).mono ?_; rintro e w' ⟨rfl, _, h2⟩; exact ⟨rfl, h2⟩
theorem qLc (vi vr vl : Value) (c : Cat) (l : List (List Int)) (w : World) (hc : qBF w vi vr c) (hf : qNJ c) (hl : qBa w vl l) (h64 : ∀ r ∈ l, B64 r) (hl100 : l.length <= 100) (hK : qAY w) (hP : qDa w) :
 Calls Tryz.prog 27 #[qDd vi vr, vl] w fun e w' => e = .returned (qEO c l) /\ Below w.heap.size w w' := by
 obtain ⟨ai, ci, rfl, hi1, hi2⟩ := hc.items.form; obtain ⟨ar, cr, rfl, hr1, hr2⟩ := hc.rules.form; obtain ⟨al, cl, rfl, hl1, hl2⟩ := hl.form; have HC := hZ hc; have HF := hZ hf; have HK := hZ hK; have HL := hZ hl; have H64 := hZ h64; have HP := hZ hP; have hn6 := hf.good.items; obtain ⟨n, hn⟩ := eX c.items.length; have Hn := hZ hn; obtain ⟨m, hm⟩ := eX l.length; have Hm := hZ hm; rw [hm] at hl100 hl1 ⊢; clear hc hf hK hl h64 hP hm; unfold qDd; rw [hn] at hi1 hn6 ⊢; obtain ⟨w1, hw1⟩ := eX (w.alloc (.cells #[.slice ai n ci, .slice ar c.rules.length cr, .slice none 0 0, .slice none 0 0] 28)); have HB : Hid (Below w.heap.size w w1) := hZ (by rw [<- hw1]; exact aR); have HX : Hid (qCp w1 w.heap.size (.slice ai n ci) (.slice ar c.rules.length cr)) := hZ (by rw [<- hw1]; exact qCp.new w _ _); have m0 := HX.o.c0; have m1 := HX.o.c1; have m2 := HX.o.c2; have m3 := HX.o.c3; have mlt := HX.o.lt; clear hn
 go_enter Tryz.func27, Tryz.ntmps27
 go_wp2_with fail
 clear hw1; have hval := qCE _ _ c w1 (HC.o.below HB.o) HF.o.good HF.o.named HF.o.ni HF.o.nr (HK.o.keep HB.o); unfold qDd at hval; rw [Hn.o] at hval; refine hval.mono ?_; clear hval; rintro e w2 ⟨rfl, hB⟩; replace HB := bT HB hB; replace HX := hZ (HX.o.below hB); clear hB m0 m1 m2 m3 mlt; have m0 := HX.o.c0; have m1 := HX.o.c1; have m2 := HX.o.c2; have m3 := HX.o.c3; have mlt := HX.o.lt; replace HL := hZ (HL.o.below HB.o)
 go_wp2_with fail
 go_loop [20] (fun iv => ∃ k : Nat, k <= m /\ iv = .int .i64 k /\ Hid (∀ j (h : j < l.length), j < k -> l[j].length = n)) (fun iv => m - (intOf iv).toNat)
 case atStart => exact ⟨0, by omega, rfl, hZ (fun j _ h => by omega)⟩
 case round =>
  obtain ⟨k, hk, rfl, HA⟩ := hrel; by_cases hlt : k < m
  ·have i1 : (0 : Int) <= (k : Int) := by omega
   have i2 : (k : Int) < (m : Int) := by omega
   have hkl : k < l.length := by have := Hm.o; omega
   obtain ⟨b1, cap1, a2, c2, hv1, hb1, y0, -, -, -⟩ := HL.o.at_ k hkl; injection hv1 with e1 e2 e3; subst e1; clear e2 e3; obtain ⟨r, hr⟩ := eX (l[k].length); have HR := hZ hr; rw [hr] at y0; clear hr; by_cases hrn : r = n
   ·have q1 : ((r : Int) != (n : Int)) = false := by simp [hrn]
    have HN : Hid (∀ j (h : j < l.length), j < k + 1 -> l[j].length = n) := hZ (fun j h hj => by
     by_cases e : j = k
     ·subst e; rw [HR.o, hrn]
     ·exact HA.o j h (by omega))
    clear hrn
    go_wp2_with fail
    go_round
    case rel => exact ⟨k + 1, by omega, by go_num, HN⟩
    case measure => simp [intOf]; omega
   ·have q1 : ((r : Int) != (n : Int)) = true := by simp; omega
    have HV : Hid (qEO c l = .tuple #[sv [], .int .i64 1]) := hZ (by
     unfold qEO qNd; rw [if_neg]; rw [List.all_eq_true]; intro h; have := h _ (List.getElem_mem hkl); rw [decide_eq_true_eq, HR.o, Hn.o] at this; exact hrn this)
    clear hrn
    go_wp2_with fail
    exact bodyPost_ret (v := .tuple #[sv [], .int .i64 1]) (by simp [results, Tryz.results27, go_sem, sv]) rfl ⟨by rw [HV.o], HB.o⟩
  ·have HEV : Hid (qNd c.items.length l = true) := hZ (by
    unfold qNd; rw [List.all_eq_true]; intro x hx; obtain ⟨j, hj, rfl⟩ := List.mem_iff_getElem.1 hx; rw [decide_eq_true_eq, Hn.o]; exact HA.o j hj (by have := Hm.o; omega))
   have i2 : ¬ (k : Int) < (m : Int) := by omega
   obtain ⟨bb, hbb⟩ := eX w2.heap.size; have HBb := hZ hbb; obtain ⟨w3, hw3⟩ := eX (w2.alloc (.cells #[.pointer none, .slice none 0 0] 97)); have HB3 : Hid (Below bb w2 w3) := hZ (by rw [<- hw3, <- hbb]; exact aR); have HL3 : Hid (qFm bb bb (prT c.items l 0) w3) := hZ (by
    have h9 := Lib.IsBuilderF.of (Lib.fresh_isBuilder 97 5 w2); rw [hw3, hbb] at h9; exact h9)
   have HNL : Hid (∀ q ∈ c.items, q.length <= 1000) := hZ (fun q hq => (HF.o.named.wi q hq).1); have HLT : Hid (∀ j, j <= m -> (prT c.items l j).length <= 1000000) := hZ (fun j hj => by
    have h9 := qNx (n := n) HNL.o (l := l) (fun q hq => ⟨by
     obtain ⟨j, hj, rfl⟩ := List.mem_iff_getElem.1 hq; exact HA.o j hj (by have := Hm.o; omega), H64.o q hq⟩) j (by have := Hm.o; omega)
    have h8 : (1100 * n + 2) * j <= 6602 * 100 := Nat.mul_le_mul (by omega) (by omega); omega)
   have HPW := hZ (HP.o.below HB.o HP.o.lt)
   go_wp2_with fail
   clear hbb hw3 m0 m1 m2 m3
   go_loopw [34] (fun iv wr => ∃ j : Nat, j <= m /\ iv = .int .i64 j /\ Hid (qFm bb bb (prT c.items l j) wr) /\ Hid (Below bb w2 wr)) (fun iv _ => m - (intOf iv).toNat)
   case atStart => exact ⟨0, by omega, rfl, HL3, HB3⟩
   case round =>
    clear HL3 HB3; obtain ⟨j, hj, rfl, HL3, HB3⟩ := hrel; obtain ⟨wl, rfl⟩ := eY wr; by_cases hlj : j < m
    ·have j1 : (0 : Int) <= (j : Int) := by omega
     have j2 : (j : Int) < (m : Int) := by omega
     have hjl : j < l.length := by have := Hm.o; omega
     have hB2l : Below w2.heap.size w2 wl := by rw [HBb.o]; exact HB3.o
     obtain ⟨b1, cap1, a2, c2, hv1, hb1, y0, -, -, -⟩ := (HL.o.below hB2l).at_ j hjl; obtain ⟨b2, cap2, a3, c3, hv2, hb2, y1, hi9, -, -⟩ := HL.o.at_ j hjl; have hsame := y0; rw [hv1] at hv2; injection hv2 with e9 _ _; injection e9 with e9; injection e9 with e9 _ _; subst e9; rw [(hB2l.cell (p := ⟨b1, j, none⟩) hb2).trans y1] at hsame; injection hsame with hsame; injection hsame with e1 _ e3; subst e1 e3; injection hv1 with e1 e2 e3; subst e1; clear e2 e3 y1; have hrn : l[j].length = n := HA.o j hjl (by have := Hm.o; omega); have HR64 := hZ (H64.o l[j] (List.getElem_mem hjl)); have HGD : Hid (l.getD j [] = l[j]) := hZ (by rw [List.getD_eq_getElem?_getD, List.getElem?_eq_getElem hjl]; rfl); obtain ⟨r, hr⟩ := eX (l[j]); rw [hr] at y0 hi9 hrn HR64 HGD; have HI := hZ hi9; have HRN := hZ hrn; rw [hrn] at y0; clear hr hi9 hrn hB2l
     go_wp2_with fail
     have hln := qMS w2 wl bb bb w.heap.size (.slice a3 r.length c3) r (.slice ai c.items.length ci) (.slice ar c.rules.length cr) c.items (prT c.items l j) ⟨HBb.o.symm, HI.o, HR64.o, by rw [HRN.o, Hn.o], by rw [Hn.o]; exact hn6, HNL.o, HC.o.items.below HB.o, by rw [Hn.o]; exact HX.o, HPW.o⟩ HL3.o HB3.o (HLT.o j (by omega)); rw [HRN.o] at hln; refine hln.mono ?_; clear hln; rintro e w5 ⟨⟨v5, rfl⟩, hb5, hB5⟩; have HB5 := hZ hB5; have HL5 : Hid (qFm bb bb (prT c.items l (j + 1)) w5) := hZ (by rw [prT, HGD.o]; exact hb5); clear hb5 hB5
     go_wp2_with fail
     go_roundw
     case rel => exact ⟨j + 1, by omega, by go_num, HL5, HB5⟩
     case measure => simp [intOf]; omega
    ·have hjm : j = m := by omega
     have j2 : ¬ (j : Int) < (m : Int) := by omega
     have HV : Hid (qEO c l = .tuple #[sv (prT c.items l j), .int .i64 0]) := hZ (by unfold qEO; rw [if_pos HEV.o, Hm.o, hjm]); have hrd := qMc bb bb _ wl HL3.o (by have := HB3.o.size; have := HBb.o; omega); clear hjm
     go_wp2_with fail
     refine hrd.mono ?_; clear hrd; rintro e w6 ⟨rfl, hB6⟩; have HB6 := hZ (HB.o.trans ((HB3.o.trans hB6).mono (by have := HB.o.size; have := HBb.o; omega))); clear hB6; unfold sv
     go_wp2_with fail
     exact bodyPost_ret (v := .tuple #[sv (prT c.items l j), .int .i64 0]) (by simp [results, Tryz.results27, go_sem, sv]) rfl ⟨by rw [HV.o], HB6.o⟩
theorem qOu : qNG (qAr 2) [2, 6, 1] = (0, -6, true) := by decide
theorem qM8 : qD8 (qAr 1) [-4, -12, -2] = true := by decide
theorem qM7 : qEO (qAr 1) [[2, 6, 1]] = .tuple #[.string ⟨#[50, 32, 111, 114, 101, 32, 43, 32, 54, 32, 98, 97, 114, 32, 43, 32, 49, 32, 99, 111, 105, 110, 10]⟩, .int .i64 0] := by
 unfold qEO; rw [if_pos (by decide)]
 show Value.tuple #[sv (prT [[111, 114, 101], [98, 97, 114], [99, 111, 105, 110]] [[2, 6, 1]] 1), .int .i64 0] = _
 rw [qMW]; rfl
theorem qOm {w : World} {g : Nat} (a b c : Int) (h : qAo w g 3 [.int .i64 a, .int .i64 b, .int .i64 c]) : qAk w (.slice (some ⟨g, 0, none⟩) 3 3) [a, b, c] := qBR (l := [a, b, c]) h (by simp) (by simp)
theorem qMM {w : World} {g : Nat} {u : Value} {r : List Int} (h1 : qAk w u r) (h2 : qAo w g 22 [u]) : qBa w (.slice (some ⟨g, 0, none⟩) 1 1) [r] := by
 refine qA1 (k := 1) (xs := [r]) (css := [[u]]) (by simpa using h2) (by simp) rfl (fun j hj hj2 => ?_) (by simp) (by simp); obtain rfl : j = 0 := by simp at hj; omega
 exact ⟨u, rfl, h1⟩
theorem qP9 (vi vr : Value) (w : World) (hc : qBF w vi vr (qAr 1)) (hK : qAY w) : Calls Tryz.prog 12 #[qDd vi vr] w fun e w' => (∃ a cp, e = .returned (.tuple #[.slice a 1 cp, .int .i64 0]) /\ qBa w' (.slice a 1 cp) [[2, 6, 1]]) /\ Below w.heap.size w w' := by
 refine (qFK vi vr (qAr 1) w hc (qDv 1 (by omega) (by omega)) (by simp [qAr]) (qNB 1) hK).mono ?_; rintro e w' ⟨⟨u, K, rfl, hm, hb⟩, hB⟩; obtain rfl : K = [[2, 6, 1]] := qGx.uniq hb qNc; obtain ⟨a, cp, rfl, -, -⟩ := hm.form; exact ⟨⟨a, cp, rfl, hm⟩, hB⟩
theorem qP8 (vi vr : Value) (w : World) (hc : qBF w vi vr (qAr 2)) (hK : qAY w) : Calls Tryz.prog 12 #[qDd vi vr] w fun e w' => (∃ a cp, e = .returned (.tuple #[.slice a 0 cp, .int .i64 0])) /\ Below w.heap.size w w' := by
 refine (qFK vi vr (qAr 2) w hc (qDv 2 (by omega) (by omega)) (by simp [qAr]) (qNB 2) hK).mono ?_; rintro e w' ⟨⟨u, K, rfl, hm, hb⟩, hB⟩; obtain rfl : K = [] := qGx.uniq hb qNb; obtain ⟨a, cp, rfl, -, -⟩ := hm.form; exact ⟨⟨a, cp, rfl⟩, hB⟩
theorem qKd (w : World) (hK : qAY w) (hP : qDa w) : Calls Tryz.prog 14 #[] w fun e w' => e = .returned (.bool true) /\ Below w.heap.size w w' := by
 have HK := hZ hK; have HP := hZ hP; have HB := hZ (Below.refl w.heap.size w); clear hK hP
 go_enter Tryz.func14, Tryz.ntmps14
 go_wp2_with fail
 refine (qBt 1 (by decide) _).mono ?_; rintro e w1 ⟨⟨vi, vr, rfl, hc⟩, hB⟩; have HC := hZ hc; replace HB := bT HB hB
 try replace M1 := hZ (M1.o.below hB)
 clear hc hB
 go_wp2_with fail
 refine (qP9 _ _ w1 HC.o (HK.o.keep HB.o)).mono ?_; rintro e w2 ⟨⟨a1, c1, rfl, hm⟩, hB⟩; have M1 := hZ hm; replace HB := bT HB hB; clear hm hB HC
 go_wp2_with fail
 refine (qBt 1 (by decide) _).mono ?_; rintro e w3 ⟨⟨vi, vr, rfl, hc⟩, hB⟩; have HC := hZ hc; replace HB := bT HB hB
 try replace M1 := hZ (M1.o.below hB)
 clear hc hB
 go_wp2_with fail
 have hpr := qLc _ _ (.slice a1 1 c1) (qAr 1) [[2, 6, 1]] w3 HC.o (qDv 1 (by omega) (by omega)) M1.o (by unfold B64; simp) (by simp) (HK.o.keep HB.o) (HP.o.below HB.o HP.o.lt); rw [qM7] at hpr; refine hpr.mono ?_; clear hpr; rintro e w4 ⟨rfl, hB⟩; replace HB := bT HB hB
 try replace M1 := hZ (M1.o.below hB)
 try replace HC := hZ (HC.o.below hB)
 clear hB; clear HC
 go_wp2_with fail
 refine (qBt 2 (by decide) _).mono ?_; rintro e w5 ⟨⟨vi, vr, rfl, hc⟩, hB⟩; have HC := hZ hc; replace HB := bT HB hB
 try replace M1 := hZ (M1.o.below hB)
 clear hc hB
 go_wp2_with fail
 refine (qP8 _ _ w5 HC.o (HK.o.keep HB.o)).mono ?_; rintro e w6 ⟨⟨a2, c2, rfl⟩, hB⟩; replace HB := bT HB hB
 try replace M1 := hZ (M1.o.below hB)
 try replace HC := hZ (HC.o.below hB)
 clear hB; clear HC
 go_wp2_with fail
 refine (qBt 2 (by decide) _).mono ?_; rintro e w7 ⟨⟨vi, vr, rfl, hc⟩, hB⟩; have HC := hZ hc; replace HB := bT HB hB
 try replace M1 := hZ (M1.o.below hB)
 clear hc hB
 go_wp2_with fail
 obtain ⟨w8, hw⟩ := eX (w7.alloc (.cells #[.int .i64 2, .int .i64 6, .int .i64 1] 3)); have hB := aB hw; have HI : Hid (qAk w8 (.slice (some ⟨w7.heap.size, 0, none⟩) 3 3) [2, 6, 1]) := hZ (by rw [<- hw]; exact qOm 2 6 1 (qAo.new _ _ _)); rw [hw]; clear hw; replace HB := bT HB hB
 try replace M1 := hZ (M1.o.below hB)
 try replace HC := hZ (HC.o.below hB)
 clear hB; have hbr := qKs _ _ _ (qAr 2) [2, 6, 1] w8 HC.o (qDv 2 (by omega) (by omega)) HI.o (by unfold B64; simp) (HK.o.keep HB.o); rw [qOu] at hbr; unfold qPY at hbr; refine hbr.mono ?_; clear hbr HI; rintro e w9 ⟨rfl, hB⟩; replace HB := bT HB hB
 try replace M1 := hZ (M1.o.below hB)
 try replace HC := hZ (HC.o.below hB)
 clear hB; clear HC; obtain ⟨w10, hw10⟩ := eX (w9.alloc (.cells #[.int .i64 2, .int .i64 6, .int .i64 1] 3)); obtain ⟨w11, hw11⟩ := eX (w10.alloc (.cells #[.slice (some ⟨w9.heap.size, 0, none⟩) 3 3] 22)); have hB10 : Below w9.heap.size w9 w10 := by rw [<- hw10]; exact aR
 have hB11 : Below w10.heap.size w10 w11 := by rw [<- hw11]; exact aR
 have hz10 : w10.heap.size = w9.heap.size + 1 := by rw [<- hw10]; simp
 have hI10 : qAk w10 (.slice (some ⟨w9.heap.size, 0, none⟩) 3 3) [2, 6, 1] := by rw [<- hw10]; exact qOm 2 6 1 (qAo.new _ _ _)
 have HM2 : Hid (qBa w11 (.slice (some ⟨w9.heap.size + 1, 0, none⟩) 1 1) [[2, 6, 1]]) := hZ (qMM (hI10.below hB11) (by rw [<- hw11, <- hz10]; exact qAo.new _ _ _)); have hB : Below w9.heap.size w9 w11 := hB10.trans (hB11.mono (by omega)); replace HB := bT HB hB
 try replace M1 := hZ (M1.o.below hB)
 try replace HC := hZ (HC.o.below hB)
 clear hB; clear hB10 hB11 hI10; have hsm := qMy _ _ _ _ w11 M1.o HM2.o; rw [decide_eq_true rfl] at hsm
 go_wp2_with fail
 clear hw10 hw11 hz10; refine hsm.mono ?_; clear hsm HM2; rintro e w12 ⟨rfl, hB⟩; replace HB := bT HB hB
 try replace M1 := hZ (M1.o.below hB)
 try replace HC := hZ (HC.o.below hB)
 clear hB
 go_wp2_with fail
 refine (qBt 1 (by decide) _).mono ?_; rintro e w13 ⟨⟨vi, vr, rfl, hc⟩, hB⟩; have HC := hZ hc; replace HB := bT HB hB
 try replace M1 := hZ (M1.o.below hB)
 clear hc hB
 go_wp2_with fail
 obtain ⟨w14, hw⟩ := eX (w13.alloc (.cells #[.int .i64 (-4), .int .i64 (-12), .int .i64 (-2)] 3)); have hB := aB hw; have HI : Hid (qAk w14 (.slice (some ⟨w13.heap.size, 0, none⟩) 3 3) [-4, -12, -2]) := hZ (by rw [<- hw]; exact qOm (-4) (-12) (-2) (qAo.new _ _ _)); rw [hw]; clear hw; replace HB := bT HB hB
 try replace M1 := hZ (M1.o.below hB)
 try replace HC := hZ (HC.o.below hB)
 clear hB; have hho := callsIn_wide.1 (qLG _ _ _ (qAr 1) [-4, -12, -2] w14 HC.o (qDv 1 (by omega) (by omega)) HI.o (by unfold B64; simp) (HK.o.keep HB.o)); rw [qM8] at hho; refine hho.mono ?_; clear hho HI; rintro e w15 ⟨rfl, hB⟩; replace HB := bT HB hB
 try replace M1 := hZ (M1.o.below hB)
 try replace HC := hZ (HC.o.below hB)
 clear hB
 go_wp2_with fail
 exact bodyPost_ret (v := .bool true) (by simp [results, Tryz.results14, go_sem]) rfl ⟨rfl, HB.o⟩
theorem qCx {w : World} {base n : Nat} {v : Value} {r : List Int} (h : w.ownsRow base 3 1 v n (r.map zv)) (hn : r.length = n) : qAk w v r := by
 rcases id h.2 with ⟨rfl, h0⟩ | ⟨g, cap, cur, rfl, _⟩
 ·obtain rfl : r = [] := List.eq_nil_of_length_eq_zero (by omega)
  exact qAf.nil _ 0 (by omega)
 ·subst hn
  exact qAk.of_own h
def qCW (zs : List Int) (m : Nat) : List Int := (List.range m).map (fun j => zs[j]?.getD 0)
theorem qAW (zs : List Int) (m : Nat) : (qCW zs m).length = m := by simp [qCW]
theorem qHd {zs : List Int} {m j : Nat} (h : j < (qCW zs m).length) : (qCW zs m)[j] = zs[j]?.getD 0 := by simp [qCW]
theorem qHE {zs : List Int} {m len : Nat} (h : ∀ j, j < len -> -9223372036854775808 <= zs[j]?.getD 0 /\ zs[j]?.getD 0 <= 9223372036854775807) (hm : m <= len) : B64 (qCW zs m) := by
 intro x hx; obtain ⟨j, hj, rfl⟩ := List.mem_map.1 hx; exact h j (by have := List.mem_range.1 hj; omega)
theorem qGQ (v : Value) (zs : List Int) (len : Nat) (w : World) (h : qBY w v zs len) :
 Calls Tryz.prog 30 #[v, .int .i64 5] w fun e w' => Below w.heap.size w w' /\ ∃ u L, e = .returned u /\ qAk w' u L /\ L.length <= 5 /\ B64 L := by
 rcases h with ⟨a, cap, rfl, rfl, hc⟩ | ⟨b, off, cap, rfl, hb, h1, h2, hcell, hr⟩
 ·go_enter Tryz.func30, Tryz.ntmps30
  go_wp2_with (at_builtin; refine qHP (W0 := w) (B := w.heap.size) qE7 rfl _ _ rfl (.slice none 0 0) (.slice a 0 cap) 0 [] [] rfl rfl ⟨a, cap, rfl, Nat.zero_le _, hc, fun h => absurd h (by simp)⟩ (World.ownsRow_nil _ _ _ _) (Below.refl _ _) (Nat.le_refl _) (by simp) (by omega) ?_)
  have HB64 : Hid (B64 []) := hZ (by unfold B64; simp); intro v' w' ho hb hon; obtain ⟨w2, rfl⟩ := eY w'
  go_wp2_with fail
  exact bodyPost_ret (v := v') (by simp [results, Tryz.results30, go_sem]) rfl ⟨hb.o, v', [], rfl, qCx (n := 0) (by simpa using ho.o) rfl, by simp, HB64.o⟩
 ·have HCE := hZ hcell
  clear hcell; by_cases h5 : len <= 5
  ·have HB64 := hZ (qHE (m := len) hr (Nat.le_refl _))
   have e5 : min (len : Int) 5 = (len : Int) := by omega
   clear hr
   go_enter Tryz.func30, Tryz.ntmps30
   go_wp2_with (at_builtin; refine qB9 (W0 := w) (B := w.heap.size) qE7 rfl _ _ rfl (.slice none 0 0) 0 [] rfl ⟨b, off, none⟩ (len) cap ((qCW zs len).map zv) rfl (by simp [qAW]) (fun j u hu => ?_) (fun u hu => by obtain ⟨y, _, rfl⟩ := List.mem_map.1 hu; rfl) (World.ownsRow_nil _ _ _ _) (Below.refl _ _) (Nat.le_refl _) (by omega) (by omega) ?_)
   ·have hj : j < len := by
     rcases Nat.lt_or_ge j len with h | h
     ·exact h
     ·rw [List.getElem?_eq_none (by simpa [qAW] using h)] at hu; cases hu
    have hadd : (⟨b, off, none⟩ : Addr).add j = ⟨b, off + j, none⟩ := by unfold Addr.add; split <;> simp_all
    rw [List.getElem?_map, List.getElem?_eq_getElem (by simpa [qAW] using hj), qHd] at hu; rw [hadd, HCE.o j (by omega)]; exact hu
   intro v' w' ho hb hon; obtain ⟨w2, rfl⟩ := eY w'
   go_wp2_with fail
   exact bodyPost_ret (v := v') (by simp [results, Tryz.results30, go_sem]) rfl ⟨hb.o, v', qCW zs len, rfl, qCx (n := len) ho.o (by simp [qAW]), by simp [qAW] <;> omega, HB64.o⟩
  ·have HB64 := hZ (qHE (m := 5) hr (by omega))
   have e5 : min (len : Int) 5 = 5 := by omega
   clear hr
   go_enter Tryz.func30, Tryz.ntmps30
   go_wp2_with (at_builtin; refine qB9 (W0 := w) (B := w.heap.size) qE7 rfl _ _ rfl (.slice none 0 0) 0 [] rfl ⟨b, off, none⟩ (5) cap ((qCW zs 5).map zv) rfl (by simp [qAW]) (fun j u hu => ?_) (fun u hu => by obtain ⟨y, _, rfl⟩ := List.mem_map.1 hu; rfl) (World.ownsRow_nil _ _ _ _) (Below.refl _ _) (Nat.le_refl _) (by omega) (by omega) ?_)
   ·have hj : j < 5 := by
     rcases Nat.lt_or_ge j 5 with h | h
     ·exact h
     ·rw [List.getElem?_eq_none (by simpa [qAW] using h)] at hu; cases hu
    have hadd : (⟨b, off, none⟩ : Addr).add j = ⟨b, off + j, none⟩ := by unfold Addr.add; split <;> simp_all
    rw [List.getElem?_map, List.getElem?_eq_getElem (by simpa [qAW] using hj), qHd] at hu; rw [hadd, HCE.o j (by omega)]; exact hu
   intro v' w' ho hb hon; obtain ⟨w2, rfl⟩ := eY w'
   go_wp2_with fail
   exact bodyPost_ret (v := v') (by simp [results, Tryz.results30, go_sem]) rfl ⟨hb.o, v', qCW zs 5, rfl, qCx (n := 5) ho.o (by simp [qAW]), by simp [qAW] <;> omega, HB64.o⟩
theorem qHS (v : Value) (zs : List Int) (len n : Nat) (w0 : World) (h : qBY w0 v zs len) (hn : n <= 1000) :
 Calls Tryz.prog 22 #[v, .int .i64 n] w0 fun e w' => Below w0.heap.size w0 w' /\ ∃ u l, e = .returned u /\ qAk w' u l /\ l.length = n /\ ∀ x ∈ l, -4 <= x /\ x <= 4 := by
 have H := hZ h; have HB := hZ (Below.refl w0.heap.size w0); clear h
 go_enter Tryz.func22, Tryz.ntmps22
 go_wp2_with (at_make; refine qBv rfl rfl (n) rfl rfl rfl rfl (by omega) ?_)
 intro w1 h_9 hB hlt9; obtain ⟨g, hb⟩ := eX w0.heap.size; rw [hb] at h_9 ⊢; have Oc' := hZ h_9; have hge_g : Hid (w0.heap.size <= g) := hZ (Nat.le_of_eq hb); have hlt_g : Hid (g < w1.heap.size) := hZ (by rw [<- hb]; exact hlt9); clear h_9 hb hlt9; replace HB := bT HB hB; clear hB; have Oc := Oc'; clear Oc'
 go_wp2_with fail
 replace Oc : Hid (qAo w1 g 3 ((List.replicate n (0 : Int)).map zv)) := hZ (by have h9 := Oc.o; simpa [zv] using h9); have HGg : Hid (w0.heap.size <= g) := hge_g; clear hge_g hlt_g
 go_loopw [6] (fun i wr => ∃ (k : Nat) (cs : List Int), k <= n /\ i = .int .i64 k /\ Hid (cs.length = n /\ ∀ x ∈ cs, -4 <= x /\ x <= 4) /\ Hid (qAo wr g 3 (cs.map zv)) /\ Hid (Below w0.heap.size w0 wr)) (fun i _ => n - (intOf i).toNat)
 case atStart => exact ⟨0, List.replicate n 0, by omega, rfl, hZ ⟨by simp, fun x hx => by rw [(List.mem_replicate.1 hx).2]; omega⟩, Oc, HB⟩
 case round =>
  clear Oc HB; obtain ⟨k, cs, hk, rfl, HC, Oc, HB⟩ := hrel; obtain ⟨w1, rfl⟩ := eY wr; by_cases hkc : k < n
  ·skip
   have k1 : (0 : Int) <= (k : Int) := by omega
   have k2 : (k : Int) < (n : Int) := by omega
   have HP4 := hZ (qF4 v zs len k 9 w1 (H.o.below (Nat.le_refl _) HB.o) (by omega) (by omega) (by omega)); have R4 := qC5 zs len k 9 (by omega); obtain ⟨z, hz⟩ := eX (qDO zs len k 9); rw [hz] at HP4 R4; clear hz
   go_wp2_with fail
   refine HP4.o.mono ?_; rintro e w9 ⟨rfl, hw9⟩; replace hw9 := hw9.symm; subst hw9; clear HP4; obtain ⟨z1, hz1⟩ := eX (z - 4); have hz1w : IntKind.i64.wrap (z - 4) = z1 := by rw [IntWalk.i64_in _ (by omega)]; exact hz1
   have rz1 : -4 <= z1 /\ z1 <= 4 := by omega
   obtain ⟨u9, e1⟩ : ∃ u, w1.cell? ⟨g, k, none⟩ = some u := ⟨_, (Oc.o.cell k).trans (List.getElem?_eq_getElem (by rw [List.length_map, HC.o.1]; exact hkc))⟩; have e2 := Oc.o.frozen (k); obtain ⟨w2, hw⟩ := eX (w1.setCell ⟨g, k, none⟩ (.int .i64 z1)); have ho : qAc (fun b => b = g) w1 w2 := by rw [<- hw]; exact (qAc.refl (fun b => b = g) _).set (p := ⟨g, k, none⟩) rfl _
   have hN : ∀ b, b = g -> qAh w1 b := fun b e => e ▸ Oc.o.noInt qIQ; replace Oc := hZ ((by have h1 := Oc.o.set k (.int .i64 z1); rw [hw, show (Value.int .i64 z1) = zv z1 from rfl, <- List.map_set] at h1; exact h1)); replace HB := hZ (qA6 HB.o ho (fun b e => by have := HGg.o; omega) HB.o.size); clear ho hN; replace HC : Hid ((cs.set k z1).length = n /\ ∀ x ∈ cs.set k z1, -4 <= x /\ x <= 4) := hZ ⟨by rw [List.length_set]; exact HC.o.1, fun x hx => by rcases List.mem_or_eq_of_mem_set hx with h9 | h9; exact HC.o.2 x h9; rw [h9]; exact rz1⟩; generalize cs.set k z1 = cs at *
   go_wp2_with fail
   go_roundw
   case rel => exact ⟨k + 1, cs, by omega, by go_num, HC, Oc, HB⟩
   case measure => simp [intOf]; omega
  ·skip
   go_wp2_with fail
   go_ret; obtain rfl : k = n := by omega
   exact ⟨HB.o, _, cs, rfl, qAk.lit Oc.o HC.o.1 hn, HC.o⟩
abbrev T4 : Nat := 10000
theorem qAw : 2 <= T4 := by decide
def qDb (w : World) (v : Value) (n : Nat) : Prop := qAb .i64 w v (qAd T4 n)
def qBz (w : World) (v : Value) (z : Int) : Prop := ∃ vd, v = .agg #[.bool (decide (z < 0)), vd] /\ qDb w vd z.natAbs
theorem qBz.below {w w' : World} {v : Value} {z : Int} {B : Nat} (h : qBz w v z) (hB : w.heap.size <= B) (hb : Below B w w') : qBz w' v z := by
 obtain ⟨vw, hv, hm⟩ := h; exact ⟨vw, hv, qAb.below hm hB hb⟩
theorem qBz.form {w : World} {v : Value} {z : Int} (h : qBz w v z) : ∃ a n c, v = .agg #[.bool (decide (z < 0)), .slice a n c] /\ qDb w (.slice a n c) z.natAbs /\ n = (qAd T4 z.natAbs).length /\ n <= c /\ c <= 9223372036854775807 := by
 obtain ⟨vd, hv, hm⟩ := h; obtain ⟨a, c, rfl, h1, h2, h3⟩ := hm; exact ⟨a, _, c, hv, ⟨a, c, rfl, h1, h2, h3⟩, rfl, h1, h2⟩
def qMj (neg : Bool) (v : Value) (L : List Nat) (w : World) (e : Ending) (w' : World) : Prop :=
 (∃ a cap b n, v = .slice a L.length cap /\ e = .returned (.agg #[.bool b, .slice a n cap]) /\ qBz w' (.agg #[.bool b, .slice a n cap]) (sgn neg (val T4 L))) /\ Below w.heap.size w w'
theorem qLk (neg : Bool) (v : Value) (L : List Nat) (w : World) (h : qAb .i64 w v L) (hlow : Low T4 L) (hlen : L.length <= 4611686018427387904) :
 Calls Tryz.prog 166 #[.bool neg, v] w (qMj neg v L w) := by
 have Htake := hZ (fun n hn => h.take n hn); obtain ⟨a, cap, rfl, h1, h2, hc⟩ := h; have Hc := hZ hc; have Hlow := hZ hlow; clear hc hlow; obtain ⟨N, hN⟩ := eX L.length; have HN := hZ hN; rw [hN] at h1 hlen ⊢; clear hN
 go_enter Tryz.func166, Tryz.ntmps166
 go_wp2
 have HB0 := hZ ((Below.refl w.heap.size w).alloc (Nat.le_refl _) (.cells #[.bool false, .slice none 0 0] 91)); have HT0 := hZ (Two.new w 91 (.bool false) (.slice none 0 0)); generalize hw0 : w.alloc (.cells #[.bool false, .slice none 0 0] 91) = w0 at *; have f0 := HT0.o.cell0; have f1 := HT0.o.cell1; have f2 := HT0.o.frozen 0; have f3 := HT0.o.frozen 1; clear hw0
 go_loop [1] (fun i => ∃ n : Nat, n <= N /\ i = .slice a n cap /\ Hid (∀ j (h : j < L.length), n <= j -> L[j] = 0)) (fun i => qPg i)
 case atStart => exact ⟨N, Nat.le_refl _, rfl, hZ (fun j hj hn => by rw [HN.o] at hj; omega)⟩
 case round =>
  obtain ⟨n, hn, rfl, hz⟩ := hrel; have hdone : ∀ n : Nat, n <= N -> (∀ j (h : j < L.length), n <= j -> L[j] = 0) -> (∀ h : n - 1 < L.length, n = 0 \/ L[n - 1] ≠ 0) -> ∀ b : Bool, b = (neg && decide (0 < n)) -> ∀ u u' : Value, qBz ((w0.setCell ⟨w.heap.size, 0, none⟩ u).setCell ⟨w.heap.size, 1, none⟩ u') (.agg #[.bool b, .slice a n cap]) (sgn neg (val T4 L)) := by
   intro n hn hz hl b hb u u'; obtain ⟨a', cap', hv, _, _, hr⟩ := Htake.o n (by rw [HN.o]; exact hn); rw [HN.o] at hv; injection hv with e1 e2 e3; subst e1 e3; rw [qEA T4 qAw L Hlow.o n (by rw [HN.o]; exact hn) hz hl] at hr; have hnl : n = (qAd T4 (val T4 L)).length := by obtain ⟨_, _, hv, _⟩ := hr; injection hv
   refine ⟨.slice a n cap, ?_, ?_⟩
   ·rw [qKV, hb, hnl]
    have e9 : decide (0 < (qAd T4 (val T4 L)).length) = decide (0 < val T4 L) := by
     congr 1
     rw [eq_iff_iff, List.length_pos_iff, ne_eq, qA5 T4 _ qAw]; omega
    rw [e9]
   ·rw [qAR]
    exact qAb.set_two (qAb.below hr (Nat.le_refl _) HB0.o) HT0.o u u'
  have Hd := hZ hdone; clear hdone; by_cases h0 : n = 0
  ·subst h0
   cases neg with
   | false =>
    go_wp2
    refine bodyPost_ret (v := .agg #[.bool false, .slice a 0 cap]) (by simp [results, Tryz.results166, go_sem, f0, f1]) rfl ⟨⟨_, _, _, _, HN.o ▸ rfl, rfl, Hd.o 0 hn hz.o (fun _ => .inl rfl) _ (by simp) _ _⟩, (HB0.o.setCell (p := ⟨w.heap.size, 0, none⟩) (Nat.le_refl _) _).setCell (p := ⟨w.heap.size, 1, none⟩) (Nat.le_refl _) _⟩
   | true =>
    go_wp2
    refine bodyPost_ret (v := .agg #[.bool false, .slice a 0 cap]) (by simp [results, Tryz.results166, go_sem, f0, f1]) rfl ⟨⟨_, _, _, _, HN.o ▸ rfl, rfl, Hd.o 0 hn hz.o (fun _ => .inl rfl) _ (by simp) _ _⟩, (HB0.o.setCell (p := ⟨w.heap.size, 0, none⟩) (Nat.le_refl _) _).setCell (p := ⟨w.heap.size, 1, none⟩) (Nat.le_refl _) _⟩
  ·have hlt : n - 1 < L.length := by rw [HN.o]; omega
   obtain ⟨b, off, rfl, hb, hcc⟩ := Hc.o (by rw [HN.o]; omega); have hcell := (HB0.o.cell (p := ⟨b, off + (n - 1), none⟩) hb).trans (hcc (n - 1) hlt); clear hcc; have hi : (off : Int) + ((n : Int) - 1) = ((off + (n - 1) : Nat) : Int) := by omega
   by_cases hzz : L[n - 1] = 0
   ·have hz2 : Hid (∀ j (h : j < L.length), n - 1 <= j -> L[j] = 0) := hZ (fun j hj hnj => by
     by_cases e : j = n - 1
     ·subst e; exact hzz
     ·exact hz.o j hj (by omega))
    rw [hzz] at hcell; clear hzz
    go_wp2
    go_round
    case rel => exact ⟨n - 1, by omega, by first | rfl | (congr 1; omega), hz2⟩
    case measure => simp [qPg]; omega
   ·have hne : (((L[n - 1] : Nat) : Int) == 0) = false := by simp; exact hzz
    have hnp : 0 < n := by omega
    cases neg with
    | false =>
     go_wp2
     refine bodyPost_ret (v := .agg #[.bool false, .slice (some ⟨b, off, none⟩) n cap]) (by simp [results, Tryz.results166, go_sem, f0, f1]) rfl ⟨⟨_, _, _, _, HN.o ▸ rfl, rfl, Hd.o n hn hz.o (fun _ => .inr hzz) _ (by simp [hnp]) _ _⟩, (HB0.o.setCell (p := ⟨w.heap.size, 0, none⟩) (Nat.le_refl _) _).setCell (p := ⟨w.heap.size, 1, none⟩) (Nat.le_refl _) _⟩
    | true =>
     go_wp2
     refine bodyPost_ret (v := .agg #[.bool true, .slice (some ⟨b, off, none⟩) n cap]) (by simp [results, Tryz.results166, go_sem, f0, f1]) rfl ⟨⟨_, _, _, _, HN.o ▸ rfl, rfl, Hd.o n hn hz.o (fun _ => .inr hzz) _ (by simp [hnp]) _ _⟩, (HB0.o.setCell (p := ⟨w.heap.size, 0, none⟩) (Nat.le_refl _) _).setCell (p := ⟨w.heap.size, 1, none⟩) (Nat.le_refl _) _⟩
theorem qBm (neg : Bool) (v : Value) (L : List Nat) (w : World) (h : qAb .i64 w v L) (hlow : Low T4 L) (hlen : L.length <= 4611686018427387904) :
 Calls Tryz.prog 166 #[.bool neg, v] w fun e w' => (∃ vr, e = .returned vr /\ qBz w' vr (sgn neg (val T4 L))) /\ Below w.heap.size w w' :=
 (qLk neg v L w h hlow hlen).mono (by rintro e w' ⟨⟨a, cap, b, n, hv, rfl, h1⟩, hB⟩; exact ⟨⟨_, rfl, h1⟩, hB⟩)
theorem qE4 : (Tryz.prog.info? 3).map (fun i => (i.zero, i.size, i.bytes)) = some (some (.int .i64 0), 1, 8) := by kernel_rfl
theorem qEB (m : Nat) (h : m < 18446744073709551616) : (qAd T4 m).length <= 5 := qAM T4 qAw 5 m (Nat.lt_trans h (by decide))
theorem qAb.of_owns {k : IntKind} {w : World} {B : Nat} {e : TypeId} {ga : Option Addr} {n gc : Nat} {L : List Nat} (h : w.ownsRow B e 1 (.slice ga n gc) n (L.map (iv k))) (hn : n = L.length) : qAb k w (.slice ga n gc) L := by
 rcases id h.2 with ⟨hv, _⟩ | ⟨g, cap, cur, hv, _, hg, h1, h2, _, _⟩
 ·injection hv with e1 e2 e3
  subst e1 e2 e3; exact ⟨none, 0, by rw [<- hn], by omega, by omega, fun h0 => by omega⟩
 ·injection hv with e1 e2 e3
  subst e1 e3; subst hn; unfold maxLen at h2; refine ⟨_, gc, rfl, h1, by omega, fun h0 => ⟨g, 0, rfl, (Array.getElem?_eq_some_iff.1 hg).1, fun j hj => ?_⟩⟩; rw [Nat.zero_add, h.cellAt j (by omega), List.getElem?_map, List.getElem?_eq_getElem hj]; rfl
theorem qBz.set_two {w : World} {v : Value} {z : Int} {b : Nat} {t : TypeId} {x : Bool} {p : Option Addr} {l c : Nat} (h : qBz w v z) (hT : Two w b t (.bool x) (.slice p l c)) (u u' : Value) :
 qBz ((w.setCell ⟨b, 0, none⟩ u).setCell ⟨b, 1, none⟩ u') v z := by
 obtain ⟨vw, hv, hm⟩ := h; exact ⟨vw, hv, qAb.set_two hm hT u u'⟩
theorem qO8 (m : Nat) (w : World) (h : m <= 9223372036854775807) :
 Calls Tryz.prog 129 #[.int .i64 (m : Int)] w fun e w' => (∃ vr, e = .returned vr /\ qBz w' vr (m : Int)) /\ Below w.heap.size w w' := by
 obtain ⟨i0, hi, hz0, hz1, hz2⟩ := info_parts qE4; have Hi := hZ hi; have Hz0 := hZ hz0; have Hz1 := hZ hz1; have Hz2 := hZ hz2; clear hi hz0 hz1 hz2; have hm0 : ¬ ((m : Int) < 0) := by omega
 have HL5 := hZ (qEB m (by omega))
 go_enter Tryz.func129, Tryz.ntmps129
 go_wp2
 have HB0 := hZ ((Below.refl w.heap.size w).alloc (Nat.le_refl _) (.cells #[.bool false, .slice none 0 0] 91)); have HT0 := hZ (Two.new w 91 (.bool false) (.slice none 0 0)); have hs0 : w.heap.size < (w.alloc (.cells #[.bool false, .slice none 0 0] 91)).heap.size := by simp
 generalize hw0 : w.alloc (.cells #[.bool false, .slice none 0 0] 91) = w0 at *; clear hw0
 go_loopw [0, 3] (fun nv dv wr => ∃ (acc : List Nat) (r : Nat) (ga : Option Addr) (gc : Nat), nv = .int .i64 (r : Int) /\ dv = .slice ga acc.length gc /\ Hid (acc ++ qAd T4 r = qAd T4 m) /\ r <= m /\ Hid (wr.ownsRow w0.heap.size 3 1 (.slice ga acc.length gc) acc.length (acc.map (iv .i64))) /\ Hid (Below w0.heap.size w0 wr)) (fun nv _ _ => qHK nv)
 case atStart => exact ⟨[], m, none, 0, rfl, rfl, hZ rfl, Nat.le_refl _, hZ (World.ownsRow_nil _ _ _ _), hZ (Below.refl _ _)⟩
 case round =>
  obtain ⟨acc, r, ga, gc, rfl, rfl, hacc, hrm, hown, hB⟩ := hrel; have hzr := hB.o.size; have hal : acc.length <= 5 := by
   have h3 := congrArg List.length hacc.o; rw [List.length_append] at h3; have := HL5.o; omega
  have hgc : gc <= 9223372036854775807 := by
   rcases hown.o.2 with ⟨hv, _⟩ | ⟨_, _, _, hv, _, _, _, h3, _⟩
   ·injection hv with _ _ e; omega
   ·injection hv with _ _ e; unfold maxLen at h3; omega
  by_cases hr0 : r = 0
  ·subst hr0
   have hA : acc = qAd T4 m := by have h3 := hacc.o; rwa [qAL, List.append_nil] at h3
   have Hno := hZ (qBm false _ acc _ (qAb.of_owns hown.o rfl) (by rw [hA]; exact qAl T4 qAw m) (by omega)); have HA := hZ hA; clear hA
   go_wp2_with fail
   refine Hno.o.mono ?_; rintro e w5 ⟨⟨vr, rfl, hr⟩, hB5⟩; rw [HA.o, qAj T4 qAw] at hr; have Hr := hZ hr; obtain ⟨a5, n5, c5, rfl, -, -, -⟩ := hr.form; have HT5 := hZ ((HT0.o.below hB.o (by omega)).below hB5 (by omega)); have f0 := HT5.o.cell0; have f1 := HT5.o.cell1; have f2 := HT5.o.frozen 0; have f3 := HT5.o.frozen 1; have HB5 := hZ (HB0.o.trans ((hB.o.trans (hB5.mono hzr)).mono (by omega))); clear hr hB5 Hno
   go_wp2
   refine bodyPost_ret (v := .agg #[.bool (decide (sgn false m < 0)), .slice a5 n5 c5]) (by simp [results, Tryz.results129, go_sem, f0, f1]) rfl ⟨⟨_, rfl, ?_⟩, (HB5.o.setCell (p := ⟨w.heap.size, 0, none⟩) (Nat.le_refl _) _).setCell (p := ⟨w.heap.size, 1, none⟩) (Nat.le_refl _) _⟩; exact Hr.o.set_two HT5.o _ _
  ·have hstep := qAZ T4 r qAw hr0
   have hal2 : acc.length <= 4 := by
    have h3 := congrArg List.length hacc.o; rw [List.length_append, hstep, List.length_cons] at h3; have := HL5.o; omega
   have Hst := hZ hstep; obtain ⟨k, hk⟩ := eX (r % T4); obtain ⟨q, hq⟩ := eX (r / T4); have hk' : r % 10000 = k := hk; have hq' : r / 10000 = q := hq; have hkI : (r : Int) % 10000 = (k : Int) := by omega
   have hqI : (r : Int) / 10000 = (q : Int) := by omega
   have hk4 : k < 10000 := by omega
   have hqr : q < r := by omega
   rw [hk, hq] at Hst; have Hgown := hZ hown.o.lt; clear hstep hk hq hk' hq'
   go_wp2_with (at_builtin; refine wpList_append_own _ rfl _ _ 22 rfl w0.heap.size 3 i0 _ 1 8 Tryz.underlying22 Hi.o Hz0.o Hz1.o Hz2.o rfl (by decide) _ _ _ rfl (hown.o.alloc _) ⟨wr.heap.size, 0, none⟩ 1 1 [iv .i64 k] rfl rfl (cell_one_new _ _ _) (by simp [Value.oneCell', iv]) (by unfold maxLen; omega) (by omega) (by simp; omega) ?_)
   intro v5 w5 hown5 hgrow _; obtain ⟨g5, cap5, hv5, _⟩ := hown5.form (by omega); subst hv5; have Hown5 : Hid (w5.ownsRow w0.heap.size 3 1 (.slice (some ⟨g5, 0, none⟩) (acc ++ [k]).length cap5) (acc ++ [k]).length ((acc ++ [k]).map (iv .i64))) := hZ (by rw [List.length_append, List.map_append]; exact hown5); have HB5 := hZ ((hB.o.alloc (by omega) (.cells #[.int .i64 (k : Int)] 3)).grown hgrow (by simp; omega) (fun k e => (hown.o.lt k e).1)); clear hown5 hgrow
   go_wp2
   go_roundw
   case rel => exact ⟨acc ++ [k], q, some ⟨g5, 0, none⟩, cap5, rfl, by simp, hZ (by rw [List.append_assoc]; show acc ++ (k :: qAd T4 q) = _; rw [<- hacc.o, Hst.o]), by omega, Hown5, HB5⟩
   case measure => simp [qHK]; omega
def qP0 : Value -> Nat
 | .int _ i => i.natAbs
 | _ => 0
theorem qO9 (m : Nat) (w : World) (h0 : 0 < m) (h : m <= 9223372036854775808) :
 Calls Tryz.prog 129 #[.int .i64 (-(m : Int))] w fun e w' => (∃ vr, e = .returned vr /\ qBz w' vr (-(m : Int))) /\ Below w.heap.size w w' := by
 obtain ⟨i0, hi, hz0, hz1, hz2⟩ := info_parts qE4; have Hi := hZ hi; have Hz0 := hZ hz0; have Hz1 := hZ hz1; have Hz2 := hZ hz2; clear hi hz0 hz1 hz2; have hm0 : -(m : Int) < 0 := by omega
 have HL5 := hZ (qEB m (by omega))
 go_enter Tryz.func129, Tryz.ntmps129
 go_wp2
 have HB0 := hZ ((Below.refl w.heap.size w).alloc (Nat.le_refl _) (.cells #[.bool false, .slice none 0 0] 91)); have HT0 := hZ (Two.new w 91 (.bool false) (.slice none 0 0)); have hs0 : w.heap.size < (w.alloc (.cells #[.bool false, .slice none 0 0] 91)).heap.size := by simp
 generalize hw0 : w.alloc (.cells #[.bool false, .slice none 0 0] 91) = w0 at *; clear hw0
 go_loopw [0, 3] (fun nv dv wr => ∃ (acc : List Nat) (r : Nat) (ga : Option Addr) (gc : Nat), nv = .int .i64 (-(r : Int)) /\ dv = .slice ga acc.length gc /\ Hid (acc ++ qAd T4 r = qAd T4 m) /\ r <= m /\ Hid (wr.ownsRow w0.heap.size 3 1 (.slice ga acc.length gc) acc.length (acc.map (iv .i64))) /\ Hid (Below w0.heap.size w0 wr)) (fun nv _ _ => qP0 nv)
 case atStart => exact ⟨[], m, none, 0, rfl, rfl, hZ rfl, Nat.le_refl _, hZ (World.ownsRow_nil _ _ _ _), hZ (Below.refl _ _)⟩
 case round =>
  obtain ⟨acc, r, ga, gc, rfl, rfl, hacc, hrm, hown, hB⟩ := hrel; have hzr := hB.o.size; have hal : acc.length <= 5 := by
   have h3 := congrArg List.length hacc.o; rw [List.length_append] at h3; have := HL5.o; omega
  have hgc : gc <= 9223372036854775807 := by
   rcases hown.o.2 with ⟨hv, _⟩ | ⟨_, _, _, hv, _, _, _, h3, _⟩
   ·injection hv with _ _ e; omega
   ·injection hv with _ _ e; unfold maxLen at h3; omega
  by_cases hr0 : r = 0
  ·subst hr0
   have hA : acc = qAd T4 m := by have h3 := hacc.o; rwa [qAL, List.append_nil] at h3
   have Hno := hZ (qBm true _ acc _ (qAb.of_owns hown.o rfl) (by rw [hA]; exact qAl T4 qAw m) (by omega)); have HA := hZ hA; clear hA
   go_wp2_with fail
   refine Hno.o.mono ?_; rintro e w5 ⟨⟨vr, rfl, hr⟩, hB5⟩; rw [HA.o, qAj T4 qAw] at hr; have Hr := hZ hr; obtain ⟨a5, n5, c5, rfl, -, -, -⟩ := hr.form; have HT5 := hZ ((HT0.o.below hB.o (by omega)).below hB5 (by omega)); have f0 := HT5.o.cell0; have f1 := HT5.o.cell1; have f2 := HT5.o.frozen 0; have f3 := HT5.o.frozen 1; have HB5 := hZ (HB0.o.trans ((hB.o.trans (hB5.mono hzr)).mono (by omega))); clear hr hB5 Hno
   go_wp2
   refine bodyPost_ret (v := .agg #[.bool (decide (sgn true m < 0)), .slice a5 n5 c5]) (by simp [results, Tryz.results129, go_sem, f0, f1]) rfl ⟨⟨_, rfl, ?_⟩, (HB5.o.setCell (p := ⟨w.heap.size, 0, none⟩) (Nat.le_refl _) _).setCell (p := ⟨w.heap.size, 1, none⟩) (Nat.le_refl _) _⟩; exact Hr.o.set_two HT5.o _ _
  ·have hstep := qAZ T4 r qAw hr0
   have hal2 : acc.length <= 4 := by
    have h3 := congrArg List.length hacc.o; rw [List.length_append, hstep, List.length_cons] at h3; have := HL5.o; omega
   have Hst := hZ hstep; obtain ⟨k, hk⟩ := eX (r % T4); obtain ⟨q, hq⟩ := eX (r / T4); have hk' : r % 10000 = k := hk; have hq' : r / 10000 = q := hq; have hkI : (-(r : Int)).tmod 10000 = -(k : Int) := by rw [Int.neg_tmod, <- hk']; rfl
   have hqI : (-(r : Int)).tdiv 10000 = -(q : Int) := by rw [Int.neg_tdiv, <- hq']; rfl
   have hk4 : k < 10000 := by omega
   have hqr : q < r := by omega
   rw [hk, hq] at Hst; have Hgown := hZ hown.o.lt; clear hstep hk hq hk' hq'; rcases Nat.eq_zero_or_pos k with hk0 | hk0
   ·subst hk0
    rw [show -((0 : Nat) : Int) = 0 from rfl] at hkI
    go_wp2_with (at_builtin; refine wpList_append_own _ rfl _ _ 22 rfl w0.heap.size 3 i0 _ 1 8 Tryz.underlying22 Hi.o Hz0.o Hz1.o Hz2.o rfl (by decide) _ _ _ rfl (hown.o.alloc _) ⟨wr.heap.size, 0, none⟩ 1 1 [iv .i64 0] rfl rfl (cell_one_new _ _ _) (by simp [Value.oneCell', iv]) (by unfold maxLen; omega) (by omega) (by simp; omega) ?_)
    intro v5 w5 hown5 hgrow _; obtain ⟨g5, cap5, hv5, _⟩ := hown5.form (by omega); subst hv5; have Hown5 : Hid (w5.ownsRow w0.heap.size 3 1 (.slice (some ⟨g5, 0, none⟩) (acc ++ [0]).length cap5) (acc ++ [0]).length ((acc ++ [0]).map (iv .i64))) := hZ (by rw [List.length_append, List.map_append]; exact hown5); have HB5 := hZ ((hB.o.alloc (by omega) (.cells #[.int .i64 0] 3)).grown hgrow (by simp; omega) (fun k e => (hown.o.lt k e).1)); clear hown5 hgrow
    go_wp2
    go_roundw
    case rel => exact ⟨acc ++ [0], q, some ⟨g5, 0, none⟩, cap5, rfl, by simp, hZ (by rw [List.append_assoc]; show acc ++ (0 :: qAd T4 q) = _; rw [<- hacc.o, Hst.o]), by omega, Hown5, HB5⟩
    case measure => simp [qP0]; omega
   ·have hkn : -(k : Int) < 0 := by omega
    go_wp2_with (at_builtin; refine wpList_append_own _ rfl _ _ 22 rfl w0.heap.size 3 i0 _ 1 8 Tryz.underlying22 Hi.o Hz0.o Hz1.o Hz2.o rfl (by decide) _ _ _ rfl (hown.o.alloc _) ⟨wr.heap.size, 0, none⟩ 1 1 [iv .i64 k] rfl rfl (cell_one_new _ _ _) (by simp [Value.oneCell', iv]) (by unfold maxLen; omega) (by omega) (by simp; omega) ?_)
    intro v5 w5 hown5 hgrow _; obtain ⟨g5, cap5, hv5, _⟩ := hown5.form (by omega); subst hv5; have Hown5 : Hid (w5.ownsRow w0.heap.size 3 1 (.slice (some ⟨g5, 0, none⟩) (acc ++ [k]).length cap5) (acc ++ [k]).length ((acc ++ [k]).map (iv .i64))) := hZ (by rw [List.length_append, List.map_append]; exact hown5); have HB5 := hZ ((hB.o.alloc (by omega) (.cells #[.int .i64 (k : Int)] 3)).grown hgrow (by simp; omega) (fun k e => (hown.o.lt k e).1)); clear hown5 hgrow
    go_wp2
    go_roundw
    case rel => exact ⟨acc ++ [k], q, some ⟨g5, 0, none⟩, cap5, rfl, by simp, hZ (by rw [List.append_assoc]; show acc ++ (k :: qAd T4 q) = _; rw [<- hacc.o, Hst.o]), by omega, Hown5, HB5⟩
    case measure => simp [qP0]; omega
theorem qFI (z : Int) (w : World) (h1 : -9223372036854775808 <= z) (h2 : z <= 9223372036854775807) :
 Calls Tryz.prog 129 #[.int .i64 z] w fun e w' => (∃ vr, e = .returned vr /\ qBz w' vr z) /\ Below w.heap.size w w' := by
 rcases Int.lt_or_le z 0 with hz | hz
 ·obtain ⟨m, rfl⟩ : ∃ m : Nat, z = -(m : Int) := ⟨z.natAbs, by omega⟩
  exact qO9 m w (by omega) (by omega)
 ·obtain ⟨m, rfl⟩ : ∃ m : Nat, z = (m : Int) := ⟨z.natAbs, by omega⟩
  exact qO8 m w (by omega)
theorem qPZ (v : Value) (L : List Nat) (w : World) (h : qAb .i64 w v L) (_hlen : L.length <= 4611686018427387904) (i : Nat) (hi : i < L.length) :
 Calls Tryz.prog 197 #[v, .int .i64 (i : Int)] w fun e w' => e = .returned (.int .i64 ((L.getD i 0 : Nat) : Int)) /\ w' = w := by
 obtain ⟨b, off, cap, rfl, hb, hc⟩ := h.at_ hi; have hg : L.getD i 0 = L[i] := by simp [List.getD, hi]
 rw [hg]; generalize L[i] = x at *; have hcap : L.length <= cap /\ cap <= 9223372036854775807 := by obtain ⟨_, _, hv, _, _, _⟩ := h; injection hv with _ _ e; omega
 generalize L.length = N at *; clear h hg
 go_enter Tryz.func197, Tryz.ntmps197
 go_wp2
 go_ret; exact ⟨rfl, rfl⟩
theorem qPz (v : Value) (L : List Nat) (w : World) (h : qAb .i64 w v L) (i : Nat) (hi : L.length <= i) (_hi2 : i <= 9223372036854775807) :
 Calls Tryz.prog 197 #[v, .int .i64 (i : Int)] w fun e w' => e = .returned (.int .i64 ((L.getD i 0 : Nat) : Int)) /\ w' = w := by
 obtain ⟨a, cap, rfl, h1, h2, -⟩ := h; have hg : L.getD i 0 = 0 := by simp [List.getD, hi]
 rw [hg]; generalize L.length = N at *; clear hg
 go_enter Tryz.func197, Tryz.ntmps197
 go_wp2
 go_ret; exact ⟨rfl, rfl⟩
theorem qJF (v : Value) (L : List Nat) (w : World) (h : qAb .i64 w v L) (hlen : L.length <= 4611686018427387904) (i : Nat) (hi2 : i <= 4611686018427387904) :
 Calls Tryz.prog 197 #[v, .int .i64 (i : Int)] w fun e w' => e = .returned (.int .i64 ((L.getD i 0 : Nat) : Int)) /\ w' = w := by
 rcases Nat.lt_or_ge i L.length with hi | hi
 ·exact qPZ v L w h hlen i hi
 ·exact qPz v L w h i hi (by omega)
theorem qNk (m n : Nat) (h : (qAd T4 m).length ≠ (qAd T4 n).length) : qAB ((qAd T4 m).length : Int) ((qAd T4 n).length : Int) = qAB (m : Int) (n : Int) := by
 rcases Nat.lt_or_gt_of_ne h with h | h
 ·rw [qBy (by omega), qBy (by have := qDr T4 qAw m n h; omega)]
 ·rw [qBo (by omega), qBo (by have := qDr T4 qAw n m h; omega)]
theorem qOE (m n i : Nat) (h1 : i - 1 < (qAd T4 m).length) (h2 : i - 1 < (qAd T4 n).length) (h0 : 0 < i) (hd : (qAd T4 m).drop i = (qAd T4 n).drop i) (hne : (qAd T4 m)[i - 1] ≠ (qAd T4 n)[i - 1]) :
 qAB ((qAd T4 m)[i - 1] : Int) ((qAd T4 n)[i - 1] : Int) = qAB (m : Int) (n : Int) := by
 have e : i - 1 + 1 = i := Nat.sub_add_cancel h0; rcases Nat.lt_or_gt_of_ne hne with h | h
 ·have := qDh T4 qAw _ _ (qAl T4 qAw m) (i - 1) h1 h2 (by rw [e]; exact hd) h
  rw [qAj T4 qAw, qAj T4 qAw] at this; rw [qBy (by omega), qBy (by omega)]
 ·have := qDh T4 qAw _ _ (qAl T4 qAw n) (i - 1) h2 h1 (by rw [e]; exact hd.symm) h
  rw [qAj T4 qAw, qAj T4 qAw] at this; rw [qBo (by omega), qBo (by omega)]
theorem qCz (va vb : Value) (m n : Nat) (w : World) (ha : qDb w va m) (hb : qDb w vb n) (hl1 : (qAd T4 m).length <= 4611686018427387904) (_hl2 : (qAd T4 n).length <= 4611686018427387904) :
 Calls Tryz.prog 172 #[va, vb] w fun e w' => e = .returned (.int .i64 (qAB (m : Int) (n : Int))) /\ ∃ d, w' = w.drewN d := by
 obtain ⟨a, cap, rfl, h1, h2, hc⟩ := ha; obtain ⟨a', cap', rfl, h1', h2', hc'⟩ := hb; have Hc := hZ hc; have Hc' := hZ hc'; clear hc hc'; by_cases hne : (qAd T4 m).length = (qAd T4 n).length
 ·obtain ⟨N, hN⟩ := eX ((qAd T4 m).length)
  have HN := hZ hN; have HM := hZ (hne.symm.trans hN); rw [hne.symm.trans hN] at h1' _hl2 ⊢; rw [hN] at h1 hl1 ⊢; clear hN hne
  go_enter Tryz.func172, Tryz.ntmps172
  go_wp2
  go_loopw [5] (fun i wr => ∃ k d : Nat, k <= N /\ i = .int .i64 ((k : Int) - 1) /\ Hid ((qAd T4 m).drop k = (qAd T4 n).drop k) /\ Hid (wr = w.drewN d)) (fun i _ => (intOf i + 1).toNat)
  case atStart => exact ⟨N, 0, Nat.le_refl _, rfl, hZ (by rw [List.drop_of_length_le (by rw [HN.o]; exact Nat.le_refl _), List.drop_of_length_le (by rw [HM.o]; exact Nat.le_refl _)]), hZ rfl⟩
  case round =>
   obtain ⟨k, d, hk, rfl, hd, hw⟩ := hrel; have hw' := hw.o; subst hw'; clear hw; by_cases h0 : k = 0
   ·subst h0
    have he : Hid (qAB (m : Int) (n : Int) = 0) := hZ (by
     have := hd.o; rw [List.drop_zero, List.drop_zero] at this; have h3 : m = n := by rw [<- qAj T4 qAw m, <- qAj T4 qAw n, this]
     rw [h3, qAV])
    go_wp2
    go_ret; exact ⟨by rw [he.o]; rfl, d, rfl⟩
   ·have q1 : k - 1 < (qAd T4 m).length := by rw [HN.o]; omega
    have q2 : k - 1 < (qAd T4 n).length := by rw [HM.o]; omega
    obtain ⟨b, off, rfl, hb, hcc⟩ := Hc.o (by omega); obtain ⟨b', off', rfl, hb', hcc'⟩ := Hc'.o (by omega); have c1 := hcc (k - 1) q1; have c2 := hcc' (k - 1) q2; clear hcc hcc'; have i0 : (0 : Int) <= (k : Int) - 1 := by omega
    have i1 : (k : Int) - 1 < (N : Int) := by omega
    have i2 : ((k : Int) - 1).toNat = k - 1 := by omega
    by_cases he : (qAd T4 m)[k - 1] = (qAd T4 n)[k - 1]
    ·have Hd2 := hZ (qHi q1 q2 (by omega) hd.o he)
     rw [he] at c1; generalize (qAd T4 n)[k - 1] = z at *; clear he
     go_wp2
     go_quiet (fail)
     obtain ⟨W3, hW3⟩ := eX ((w.drewN d).drewN nq); have c3 : W3.cell? ⟨b, off + (k - 1), none⟩ = some (.int .i64 (z : Int)) := by rw [<- hW3]; exact c1
     have c4 : W3.cell? ⟨b', off' + (k - 1), none⟩ = some (.int .i64 (z : Int)) := by rw [<- hW3]; exact c2
     have HW3 := hZ hW3; rw [hW3]; clear hW3 c1 c2
     go_wp2
     go_quiet (fail)
     go_wp2
     go_roundw
     case rel => exact ⟨k - 1, _, by omega, by go_num, Hd2, hZ (by rw [<- HW3.o, World.drewN_drewN, World.drewN_drewN])⟩
     case measure => simp [intOf]; omega
    ·have Hca := hZ (qOE m n k q1 q2 (by omega) hd.o he)
     generalize (qAd T4 n)[k - 1] = z at *; generalize (qAd T4 m)[k - 1] = y at *; rcases Nat.lt_or_gt_of_ne he with hlt | hlt
     ·rw [qBy (by omega)] at Hca
      have hyz : (y : Int) < (z : Int) := by omega
      clear he
      go_wp2
      go_quiet (fail)
      go_wp2
      go_ret; exact ⟨by rw [<- Hca.o]; rfl, _, by rw [World.drewN_drewN]⟩
     ·rw [qBo (by omega)] at Hca
      have hyz : ¬ (y : Int) < (z : Int) := by omega
      have hzy : (z : Int) < (y : Int) := by omega
      clear he
      go_wp2
      go_quiet (fail)
      obtain ⟨W3, hW3⟩ := eX ((w.drewN d).drewN nq); have c3 : W3.cell? ⟨b, off + (k - 1), none⟩ = some (.int .i64 (y : Int)) := by rw [<- hW3]; exact c1
      have c4 : W3.cell? ⟨b', off' + (k - 1), none⟩ = some (.int .i64 (z : Int)) := by rw [<- hW3]; exact c2
      have HW3 := hZ hW3; rw [hW3]; clear hW3 c1 c2
      go_wp2
      go_quiet (fail)
      go_wp2
      go_ret; exact ⟨by rw [<- Hca.o]; rfl, _, by rw [<- HW3.o, World.drewN_drewN, World.drewN_drewN]⟩
 ·have Hcl := hZ (qNk m n hne)
  clear Hc Hc'; generalize (qAd T4 m).length = N at *; generalize (qAd T4 n).length = M at *; rcases Nat.lt_or_gt_of_ne hne with hlt | hlt
  ·have hx : qAB (m : Int) (n : Int) = -1 := by rw [<- Hcl.o, qBy (by omega)]
   have Hx := hZ hx; clear hx Hcl hne
   go_enter Tryz.func172, Tryz.ntmps172
   go_wp2
   go_ret; exact ⟨by rw [Hx.o]; rfl, 0, rfl⟩
  ·have hx : qAB (m : Int) (n : Int) = 1 := by rw [<- Hcl.o, qBo (by omega)]
   have Hx := hZ hx; clear hx Hcl hne
   go_enter Tryz.func172, Tryz.ntmps172
   go_wp2
   go_ret; exact ⟨by rw [Hx.o]; rfl, 0, rfl⟩
theorem qBs (vx vy : Value) (x y : Int) (w : World) (hx : qBz w vx x) (hy : qBz w vy y) (hlx' : (qAd T4 x.natAbs).length <= 1048576) (hly' : (qAd T4 y.natAbs).length <= 1048576) :
 Calls Tryz.prog 135 #[vx, vy] w fun e w' => e = .returned (.int .i64 (qAB x y)) /\ Below w.heap.size w w' := by
 obtain ⟨ax, nx, cx, rfl, hmx, -, hcx⟩ := hx.form; obtain ⟨ay, ny, cy, rfl, hmy, -, hcy⟩ := hy.form; have HX := hZ hmx; have HY := hZ hmy; clear hx hy hmx hmy; have HB := hZ (fun b1 b2 => ((Below.refl w.heap.size w).alloc (Nat.le_refl _) (.cells #[.bool b1, .slice ax nx cx] 91)).alloc (by simp) (.cells #[.bool b2, .slice ay ny cy] 91)); by_cases h1 : x < 0 <;> by_cases h2 : y < 0
 ·have Hc := hZ (fun w' (hb : Below w.heap.size w w') => qCz (.slice ay ny cy) (.slice ax nx cx) y.natAbs x.natAbs w' (qAb.below HY.o (Nat.le_refl _) hb) (qAb.below HX.o (Nat.le_refl _) hb) (by omega) (by omega))
  rw [qJz x y h1 h2] at Hc; rw [decide_eq_true h1, decide_eq_true h2]; clear h1 h2 HX HY
  go_enter Tryz.func135, Tryz.ntmps135
  go_wp2_with fail
  refine (Hc.o _ (HB.o true true)).mono ?_; rintro e w1 ⟨rfl, d, rfl⟩
  go_wp2
  go_ret; exact ⟨rfl, qBu (HB.o true true) d⟩
 ·have Hc := hZ (qBy (show x < y by omega))
  rw [decide_eq_true h1, decide_eq_false h2]; clear h1 h2 HX HY
  go_enter Tryz.func135, Tryz.ntmps135
  go_wp2
  go_ret; exact ⟨by rw [Hc.o]; rfl, HB.o true false⟩
 ·have Hc := hZ (qBo (show y < x by omega))
  rw [decide_eq_false h1, decide_eq_true h2]; clear h1 h2 HX HY
  go_enter Tryz.func135, Tryz.ntmps135
  go_wp2
  go_ret; exact ⟨by rw [Hc.o]; rfl, HB.o false true⟩
 ·have Hc := hZ (fun w' (hb : Below w.heap.size w w') => qCz (.slice ax nx cx) (.slice ay ny cy) x.natAbs y.natAbs w' (qAb.below HX.o (Nat.le_refl _) hb) (qAb.below HY.o (Nat.le_refl _) hb) (by omega) (by omega))
  rw [qJy x y h1 h2] at Hc; rw [decide_eq_false h1, decide_eq_false h2]; clear h1 h2 HX HY
  go_enter Tryz.func135, Tryz.ntmps135
  go_wp2_with fail
  refine (Hc.o _ (HB.o false false)).mono ?_; rintro e w1 ⟨rfl, d, rfl⟩
  go_wp2
  go_ret; exact ⟨rfl, qBu (HB.o false false) d⟩
end Go.Proofs.YtkjhlkngihponaaGreatDoor
