/- A part of the proof. -/
import Derived.Test.YtlmbebbdamgfpaaQHRegFork
import Derived.Test.YtlmbebbdamgfpaaQHWKnuth
import Derived.Test.YtlmbebbdamgfpaaQHLMat
import Derived.Test.YtlmbebbdamgfpaaQHWDivF
set_option linter.unusedVariables false
set_option linter.unusedSimpArgs false
namespace Go.Proofs.Ytlmbebbdamgfpaa
open Go.RowKit
def Sz (k : Nat) (z : Int) : Prop := z.natAbs < 2 ^ k
theorem Sz.lim_ {k : Nat} {z : Int} (e : Nat) (he : LIM = 2 ^ e) (h : Sz k z) (hk : k <= e) : z.natAbs < LIM := by
 rw [he]; exact Nat.lt_of_lt_of_le h (Nat.pow_le_pow_right (by omega) hk)
theorem Sz.lim {k : Nat} {z : Int} (h : Sz k z) (hk : k <= 16384) : z.natAbs < LIM := h.lim_ 16384 qLU hk
theorem Sz.mono {k l : Nat} {z : Int} (h : Sz k z) (hk : k <= l) : Sz l z := Nat.lt_of_lt_of_le h (Nat.pow_le_pow_right (by omega) hk)
theorem Sz.mul {k l : Nat} {x y : Int} (h : Sz k x) (h2 : Sz l y) : Sz (k + l) (x * y) := by
 unfold Sz at *; rw [Int.natAbs_mul, Nat.pow_add]; exact Nat.mul_lt_mul'' h h2
theorem Sz.add {k : Nat} {x y : Int} (h : Sz k x) (h2 : Sz k y) : Sz (k + 1) (x + y) := by
 unfold Sz at *; rw [Nat.pow_succ]; omega
theorem Sz.sub {k : Nat} {x y : Int} (h : Sz k x) (h2 : Sz k y) : Sz (k + 1) (x - y) := by
 unfold Sz at *; rw [Nat.pow_succ]; omega
theorem Sz.neg {k : Nat} {x : Int} (h : Sz k x) : Sz k (-x) := by
 unfold Sz at *; omega
theorem Sz.of_le {k : Nat} {x y : Int} (h : Sz k x) (h2 : y.natAbs <= x.natAbs) : Sz k y := Nat.lt_of_le_of_lt h2 h
theorem Sz.zero (k : Nat) : Sz k 0 := by unfold Sz; exact Nat.pow_pos (by omega)
theorem Sz.one {k : Nat} (h : 0 < k) : Sz k 1 := by
 have : 2 ^ 1 <= 2 ^ k := Nat.pow_le_pow_right (by omega) h; unfold Sz; omega
theorem Sz.div {k : Nat} {x y : Int} (h : Sz k x) (hy : y ≠ 0) : Sz (k + 1) (x / y) := by
 unfold Sz at *; rw [Nat.pow_succ]; have h1 := Int.natAbs_ediv x y; have h2 : x.natAbs / y.natAbs <= x.natAbs := Nat.div_le_self _ _; have h3 : 0 < 2 ^ k := Nat.pow_pos (by omega)
 split at h1 <;> omega
theorem Sz.mod {k : Nat} {x y : Int} (h : Sz k y) (hy : y ≠ 0) : Sz k (x % y) := by
 unfold Sz at *; have h1 := Int.emod_nonneg x hy; have h2 := Int.emod_lt x hy; omega
attribute [irreducible] Sz
theorem qF0 (x y : Int) (hy : y ≠ 0) : qOf x y = x / y /\ (rOf x y : Int) = x % y := by
 obtain ⟨h1, h2⟩ := qLh x y hy; have h3 := Int.emod_add_mul_ediv x y; rcases Int.lt_or_gt_of_ne hy with h | h
 ·have := Int.ediv_emod_unique' (a := x) (b := y) (r := (rOf x y : Int)) (q := qOf x y) h
  obtain ⟨a, b⟩ := this.2 ⟨by rw [Int.mul_comm]; omega, by omega, by omega⟩; exact ⟨a.symm, b.symm⟩
 ·have := Int.ediv_emod_unique (a := x) (b := y) (r := (rOf x y : Int)) (q := qOf x y) h
  obtain ⟨a, b⟩ := this.2 ⟨by rw [Int.mul_comm]; omega, by omega, by omega⟩; exact ⟨a.symm, b.symm⟩
def Bx (w : World) (b : Nat) (z : Int) : Prop := ∃ s a n c, Two w b 58 (.bool s) (.slice a n c) /\ qAz w (.agg #[.bool s, .slice a n c]) z
section
variable {w w' : World} {b g : Nat} {z : Int}
theorem Bx.lt (h : Bx w b z) : b < w.heap.size := by obtain ⟨_, _, _, _, h, _⟩ := h; exact h.lt
theorem Bx.blw (h : Bx w b z) (hb : Below w.heap.size w w') : Bx w' b z := by
 obtain ⟨s, a, n, c, h1, h2⟩ := h; exact ⟨s, a, n, c, h1.below hb h1.lt, h2.below hb⟩
instance : Mv w w' (Bx w b z) (Bx w' b z) := ⟨fun hb h => Bx.blw h hb⟩
theorem Two.noInt {t : TypeId} {x y : Value} (h : Two w b t x y) (hx : ∀ i, x ≠ .int .u32 i) (hy : ∀ i, y ≠ .int .u32 i) : qAg w b := by
 intro o i he; rw [cell_of_row w b o _ t (0, 0) h] at he
 match o, he with
 | 0, he => simp at he; exact hx _ he
 | 1, he => simp at he; exact hy _ he
 | o + 2, he => simp at he
theorem Bx.noInt (h : Bx w b z) : qAg w b := by
 obtain ⟨s, a, n, c, h1, h2⟩ := h; exact h1.noInt (fun _ h => by cases h) (fun _ h => by cases h)
theorem One.noInt {t : TypeId} {x : Value} (h : One w b t x) (hx : ∀ i, x ≠ .int .u32 i) : qAg w b := by
 intro o i he; rw [cell_of_row w b o _ t (0, 0) h] at he
 match o, he with
 | 0, he => simp at he; exact hx _ he
 | o + 1, he => simp at he
theorem qFy {w : World} {a : Addr} {u : Value} (h : w.cell? a = none) : (w.setCell a u).cell? a = none := by
 unfold World.cell? at h ⊢; simp only [World.setCell, Array.getElem?_modify, if_true]; cases hh : w.heap[a.block]? with
 | none => simp
 | some x =>
  rw [hh] at h; cases x with
  | cells c e f =>
   simp only [Option.map_some]
   split
   ·rfl
   ·next hs =>
    simp [hs] at h ⊢; exact h
  | _ => simp
theorem qAg.set (h : qAg w g) (g' o : Nat) {u : Value} (hu : ∀ i, u ≠ .int .u32 i) : qAg (w.setCell ⟨g', o, none⟩ u) g := by
 intro p x he; by_cases e : (⟨g, p, none⟩ : Addr) = ⟨g', o, none⟩
 ·have h2 := h p x
  rw [e] at he h2; rcases hc : w.cell? ⟨g', o, none⟩ with _ | y
  ·rw [qFy hc] at he
   cases he
  ·rw [World.cell?_setCell_same _ _ _ hc] at he
   injection he with he; exact hu _ he
 ·rw [World.cell?_setCell_other _ _ _ _ (fun h => e h.symm)] at he
  exact h p x he
theorem qAg.below (h : qAg w g) (hb : Below w.heap.size w w') (hg : g < w.heap.size) : qAg w' g := by
 intro o x he; rw [hb.cell (p := ⟨g, o, none⟩) hg] at he; exact h o x he
def st2 (w : World) (g o1 o2 : Nat) (s : Bool) (a : Option Addr) (n c : Nat) : World := (w.setCell ⟨g, o1, none⟩ (.bool s)).setCell ⟨g, o2, none⟩ (.slice a n c)
variable {o1 o2 : Nat} {s : Bool} {a : Option Addr} {n c : Nat}
theorem qAg.off (h : qAg w b) : qAg (st2 w g o1 o2 s a n c) b := (h.set g o1 (fun _ h => by cases h)).set g o2 (fun _ h => by cases h)
theorem qAz.off {v : Value} (h : qAz w v z) (hg : qAg w g) : qAz (st2 w g o1 o2 s a n c) v z := (h.far hg _ _).far (hg.set g o1 (fun _ h => by cases h)) _ _
theorem Two.off {t : TypeId} {x y : Value} (h : Two w b t x y) (hne : b ≠ g) : Two (st2 w g o1 o2 s a n c) b t x y :=
 (Below.heap_setCell _ ⟨g, o2, none⟩ _ b hne).trans ((Below.heap_setCell w ⟨g, o1, none⟩ _ b hne).trans h)
theorem One.off {t : TypeId} {x : Value} (h : One w b t x) (hne : b ≠ g) : One (st2 w g o1 o2 s a n c) b t x :=
 (Below.heap_setCell _ ⟨g, o2, none⟩ _ b hne).trans ((Below.heap_setCell w ⟨g, o1, none⟩ _ b hne).trans h)
theorem qAE.off {t : TypeId} {cs : List Value} (h : qAE w b t cs) (hne : b ≠ g) : qAE (st2 w g o1 o2 s a n c) b t cs :=
 (Below.heap_setCell _ ⟨g, o2, none⟩ _ b hne).trans ((Below.heap_setCell w ⟨g, o1, none⟩ _ b hne).trans h)
theorem Bx.off (h : Bx w b z) (hg : qAg w g) (hne : b ≠ g) : Bx (st2 w g o1 o2 s a n c) b z := by
 obtain ⟨s, a, n, c, h1, h2⟩ := h; exact ⟨s, a, n, c, h1.off hne, h2.off hg⟩
theorem qAF.off {zs : List Int} (h : qAF w b zs) (hg : qAg w g) (hne : b ≠ g) : qAF (st2 w g o1 o2 s a n c) b zs :=
 (h.far hne hg _ _).far hne (hg.set g o1 (fun _ h => by cases h)) _ _
theorem qJj {B : Nat} {w0 : World} (h : Below B w0 w) (hg : B <= g) : Below B w0 (st2 w g o1 o2 s a n c) := (h.setCell (p := ⟨g, o1, none⟩) hg _).setCell (p := ⟨g, o2, none⟩) hg _
theorem qAc.off {S : Nat -> Prop} {w0 : World} (h : qAc S w0 w) (hg : S g) : qAc S w0 (st2 w g o1 o2 s a n c) := (h.set (p := ⟨g, o1, none⟩) hg _).set (p := ⟨g, o2, none⟩) hg _
theorem qFb : (st2 w g o1 o2 s a n c).heap.size = w.heap.size := by simp [st2, World.setCell]
theorem Bx.put {y : Int} (h : Bx w b y) (hv : qAz w (.agg #[.bool s, .slice a n c]) z) : Bx (st2 w b 0 1 s a n c) b z := by
 have hn := h.noInt; obtain ⟨s', a', n', c', h1, h2⟩ := h; exact ⟨s, a, n, c, h1.setB _ _, hv.off hn⟩
theorem Two.put1 {t : TypeId} {x y : Value} (h : Two w b t x y) : Two (st2 w b 0 1 s a n c) b t (.bool s) (.slice a n c) := h.setB _ _
theorem qAF.put' {zs : List Int} (h : qAF w g zs) (j : Nat) (hj : j < zs.length) (hv : qAz w (.agg #[.bool s, .slice a n c]) z) : qAF (st2 w g (j * 2) (j * 2 + 1) s a n c) g (zs.set j z) := by
 obtain ⟨vw, e, hm⟩ := hv; injection e with e; have e1 := congrArg (fun x => x[0]?) e; have e2 := congrArg (fun x => x[1]?) e; simp at e1 e2; subst e1 e2; exact h.put j hj ⟨_, rfl, hm⟩
theorem qAF.get {zs : List Int} (h : qAF w g zs) (j : Nat) (hj : j < zs.length) : ∃ s a n c, w.cell? ⟨g, j * 2, none⟩ = some (.bool s) /\ w.cell? ⟨g, j * 2 + 1, none⟩ = some (.slice a n c) /\ qAz w (.agg #[.bool s, .slice a n c]) zs[j] := by
 obtain ⟨a, n, c, h1, h2, h3⟩ := h.at_ j hj; exact ⟨_, a, n, c, h1, h2, h3⟩
theorem qAz.form4 {v : Value} (h : qAz w v z) : ∃ s a n c, v = .agg #[.bool s, .slice a n c] := by
 obtain ⟨a, n, c, rfl, _⟩ := h.form; exact ⟨_, _, _, _, rfl⟩
theorem Bx.new {s : Bool} {a : Option Addr} {n c : Nat} (hv : qAz w (.agg #[.bool s, .slice a n c]) z) : Bx (w.alloc (.cells #[.bool s, .slice a n c] 58)) w.heap.size z :=
 ⟨s, a, n, c, Two.new _ _ _ _, hv.below ((Below.refl _ _).alloc (Nat.le_refl _) _)⟩
theorem Two.blw {t : TypeId} {x y : Value} (h : Two w b t x y) (hb : Below w.heap.size w w') : Two w' b t x y := h.below hb h.lt
instance {t : TypeId} {x y : Value} : Mv w w' (Two w b t x y) (Two w' b t x y) := ⟨fun hb h => Two.blw h hb⟩
theorem qAz.blw {v : Value} (h : qAz w v z) (hb : Below w.heap.size w w') : qAz w' v z := h.below hb
instance {v : Value} : Mv w w' (qAz w v z) (qAz w' v z) := ⟨fun hb h => qAz.blw h hb⟩
theorem qAF.blw {zs : List Int} (h : qAF w g zs) (hb : Below w.heap.size w w') : qAF w' g zs := h.below hb
instance {zs : List Int} : Mv w w' (qAF w g zs) (qAF w' g zs) := ⟨fun hb h => qAF.blw h hb⟩
theorem One.blw {t : TypeId} {x : Value} (h : One w b t x) (hb : Below w.heap.size w w') : One w' b t x := h.below hb h.lt
instance {t : TypeId} {x : Value} : Mv w w' (One w b t x) (One w' b t x) := ⟨fun hb h => One.blw h hb⟩
theorem qAE.blw {t : TypeId} {cs : List Value} (h : qAE w b t cs) (hb : Below w.heap.size w w') : qAE w' b t cs := h.below hb h.lt
instance {t : TypeId} {cs : List Value} : Mv w w' (qAE w b t cs) (qAE w' b t cs) := ⟨fun hb h => qAE.blw h hb⟩
end
def W1 (z : Int) (w : World) (e : Ending) (w' : World) : Prop :=
 ∃ s a n c, e = .returned (.agg #[.bool s, .slice a n c]) /\ qAz w' (.agg #[.bool s, .slice a n c]) z /\ Below w.heap.size w w'
theorem qKw.w1 {z : Int} {w : World} {e : Ending} {w' : World} (h : qKw z w e w') : W1 z w e w' := by
 obtain ⟨a, n, c, h1, h2, h3⟩ := h; exact ⟨_, a, n, c, h1, h2, h3⟩
section
variable {vx vy : Value} {x y : Int} {w : World} {k l : Nat}
theorem qBp (hx : qAz w vx x) (hy : qAz w vy y) (sx : Sz k x) (sy : Sz l y) (hk : k + l <= 16384) : Calls Try.prog 46 #[vx, vy] w (W1 (x * y) w) :=
 (qIm vx vy x y w hx hy (sx.lim (by omega)) (sy.lim (by omega)) ((sx.mul sy).lim hk)).mono (fun _ _ h => h.w1)
theorem qIT (hx : qAz w vx x) (hy : qAz w vy y) (sx : Sz k x) (sy : Sz k y) (hk : k <= 16000) : Calls Try.prog 79 #[vx, vy] w (W1 (x + y) w) :=
 (qIY vx vy x y w hx hy (sx.lim (by omega)) (sy.lim (by omega)) ((sx.add sy).lim (by omega))).mono (fun _ _ h => h.w1)
theorem qCV (hx : qAz w vx x) (hy : qAz w vy y) (sx : Sz k x) (sy : Sz k y) (hk : k <= 16000) : Calls Try.prog 45 #[vx, vy] w (W1 (x - y) w) :=
 (qIo vx vy x y w hx hy (sx.lim (by omega)) (sy.lim (by omega)) ((sx.sub sy).lim (by omega))).mono (fun _ _ h => h.w1)
theorem qDQ (hx : qAz w vx x) (hy : qAz w vy y) (sx : Sz k x) (sy : Sz l y) (hy0 : y ≠ 0) (hk : k <= 16384) (hl : l <= 16384) : Calls Try.prog 75 #[vx, vy] w (W1 (x / y) w) :=
 (qIZ vx vy x y w hx hy (sx.lim hk) (sy.lim hl) hy0).mono (fun _ _ h => by rw [(qF0 x y hy0).1] at h; exact h.w1)
theorem qDc (hx : qAz w vx x) (hy : qAz w vy y) (sx : Sz k x) (sy : Sz l y) (hy0 : y ≠ 0) (hk : k <= 16384) (hl : l <= 16384) : Calls Try.prog 77 #[vx, vy] w (W1 (x % y) w) :=
 (qG5 vx vy x y w hx hy (sx.lim hk) (sy.lim hl) hy0).mono (fun _ _ h => by rw [(qF0 x y hy0).2] at h; exact h.w1)
theorem qLT (hx : qAz w vx x) (sx : Sz k x) (hk : k <= 16384) : Calls Try.prog 76 #[vx] w (W1 (-x) w) :=
 (qKR vx x w hx (sx.lim hk)).mono (fun _ _ ⟨v, e, h, hB⟩ => by obtain ⟨s, a, n, c, rfl⟩ := h.form4; exact ⟨s, a, n, c, e, h, hB⟩)
theorem qEt (z : Int) (h1 : -9223372036854775808 <= z) (h2 : z <= 9223372036854775807) : Calls Try.prog 39 #[.int .i64 z] w (W1 z w) :=
 (qJ0 z w h1 h2).mono (fun _ _ ⟨v, e, h, hB⟩ => by obtain ⟨s, a, n, c, rfl⟩ := h.form4; exact ⟨s, a, n, c, e, h, hB⟩)
theorem qAD (hx : qAz w vx x) (sx : Sz k x) (hk : k <= 16384) : Calls Try.prog 44 #[vx] w fun e w' => e = .returned (.int .i64 (qAK x 0)) /\ Below w.heap.size w w' := qJD vx x w hx (sx.lim hk)
theorem qHh (hx : qAz w vx x) (hy : qAz w vy y) (sx : Sz k x) (sy : Sz l y) (hy0 : y ≠ 0) (hk : k <= 16384) (hl : l <= 16384) :
 Calls Try.prog 43 #[vx, vy] w fun e w' => ∃ s a n c s' a' n' c', e = .returned (.tuple #[.agg #[.bool s, .slice a n c], .agg #[.bool s', .slice a' n' c'], .int .i64 0]) /\ qAz w' (.agg #[.bool s, .slice a n c]) (x / y) /\ qAz w' (.agg #[.bool s', .slice a' n' c']) (x % y) /\ Below w.heap.size w w' :=
 (qJx vx vy x y w hx hy hy0 (sx.lim hk) (sy.lim hl)).mono (fun e w' ⟨hB, vq, vr, he, hq, hr⟩ => by
  obtain ⟨s, a, n, c, rfl⟩ := hq.form4; obtain ⟨s', a', n', c', rfl⟩ := hr.form4; rw [(qF0 x y hy0).1] at hq; rw [(qF0 x y hy0).2] at hr; exact ⟨s, a, n, c, s', a', n', c', he, hq, hr, hB⟩)
end
theorem qJg (x : Int) : (qAK x 0 != 0) = decide (x ≠ 0) := by
 unfold qAK; by_cases h1 : x < 0
 ·rw [if_pos h1]; simp; omega
 ·rw [if_neg h1]
  by_cases h2 : 0 < x
  ·rw [if_pos h2]; simp; omega
  ·rw [if_neg h2]; simp; omega
section
variable {w w' w0 : World} {g o1 o2 b : Nat} {s : Bool} {a : Option Addr} {n c : Nat} {z : Int}
theorem qAz.offe {v : Value} (h : qAz w v z) (e : st2 w g o1 o2 s a n c = w') (hg : qAg w g) : qAz w' v z := e ▸ h.off hg
theorem Bx.offe (h : Bx w b z) (e : st2 w g o1 o2 s a n c = w') (hg : qAg w g) (hne : b ≠ g) : Bx w' b z := e ▸ h.off hg hne
theorem qAF.offe {zs : List Int} (h : qAF w b zs) (e : st2 w g o1 o2 s a n c = w') (hg : qAg w g) (hne : b ≠ g) : qAF w' b zs := e ▸ h.off hg hne
theorem Two.offe {t : TypeId} {x y : Value} (h : Two w b t x y) (e : st2 w g o1 o2 s a n c = w') (hne : b ≠ g) : Two w' b t x y := e ▸ h.off hne
theorem One.offe {t : TypeId} {x : Value} (h : One w b t x) (e : st2 w g o1 o2 s a n c = w') (hne : b ≠ g) : One w' b t x := e ▸ h.off hne
theorem qAE.offe {t : TypeId} {cs : List Value} (h : qAE w b t cs) (e : st2 w g o1 o2 s a n c = w') (hne : b ≠ g) : qAE w' b t cs := e ▸ h.off hne
end
theorem qAc.offs {S : Nat -> Prop} {w0 w w' : World} {g o1 o2 : Nat} {s : Bool} {a : Option Addr} {n c : Nat} (h : qAc S w0 w) (e : (w.setCell ⟨g, o1, none⟩ (.bool s)).setCell ⟨g, o2, none⟩ (.slice a n c) = w') (hg : S g) : qAc S w0 w' := by subst e; exact h.off hg
theorem bO {B : Nat} {w0 w w' : World} {g o1 o2 : Nat} {s : Bool} {a : Option Addr} {n c : Nat} (e : st2 w g o1 o2 s a n c = w') (h : Below B w0 w) (hg : B <= g) : Below B w0 w' := by subst e; exact qJj h hg
open Go.RowKit
theorem qCm {z : Array Value} {n : Nat} {u : Value} (h : u ∈ Builtin.zeroCells z n) (hz : 0 < z.size) : u ∈ z := by
 unfold Builtin.zeroCells at h; obtain ⟨i, hi, rfl⟩ := Array.mem_map.1 h; have : i % z.size < z.size := Nat.mod_lt _ hz; rw [getElem!_pos z _ this]; exact Array.getElem_mem this
theorem qGL {w : World} {ops : Array Oper} {rest : List Oper} {o : Oper} {a : Act} {Q : Exit -> Act -> World -> Prop} (hgd : o.guard = none) (s x : Operand)
 (ho : o.op = .call { callee := .builtin .append, args := #[s, x], argTypes := #[55, 55] })
 (hs : a.eval s = .slice none 0 0) (g m c : Nat) (cs : List Value) (hx : a.eval x = .slice (some ⟨g, 0, none⟩) m c) (hcs : cs.length = m * 2) (hnews : ∀ j u, cs[j]? = some u -> w.cell? ⟨g, j, none⟩ = some u)
 (h0 : 0 < m) (hm : m <= 1000000)
 (h : ∀ (cap : Nat) (tl : List Value), m <= cap -> cap <= 9223372036854775807 -> (∀ u ∈ tl, u = .bool false \/ u = .slice none 0 0) -> wpList Try.prog ops Q rest (a.put o.dst (.slice (some ⟨w.heap.size, 0, none⟩) m cap)) (w.drew.alloc (.cells (cs ++ tl).toArray 58))) : wpList Try.prog ops Q (o :: rest) a w := by
 have hE : qIy Try.prog 55 58 2 32 := qIy.mk (z := .agg #[.bool false, .slice none 0 0]) Try.underlying55 (by kernel_rfl) rfl (by decide); have hz0 : (Try.prog.info? 58).map (fun i => (i.zero, i.size, i.bytes)) = some (some (.agg #[.bool false, .slice none 0 0]), 2, 32) := by kernel_rfl
 obtain ⟨i, hi, hz, hsize, hbyt⟩ := info_parts hz0; refine wpList_plain hgd fun K hK => ?_; have hr := run_append_nil (P := Try.prog) w 55 o.type 58 i _ hE.1 hi hz ⟨g, 0, none⟩ m c cs (by rw [hcs, hsize]) (fun j v hj => by
  have hadd : (⟨g, 0, none⟩ : Addr).add j = ⟨g, j, none⟩ := by unfold Addr.add; split <;> simp_all
  rw [hadd]; exact hnews j v hj) h0 (by omega) (by rw [hbyt]; omega)
 unfold Oper.wp execOp; simp only [ho, resolve, invoke, builtin, Sem.run_bind, Sem.run_pure, Result.andThen_ok, List.map_toArray, List.map_cons, List.map_nil, hs, hx, hr]; have hcap := grownCap_ge w m 0 58; have hcap2 := grownCap_le_maxLen w m 0 58 (by unfold maxLen; omega); have hh := h (grownCap w m 0 58) (Builtin.zeroCells (Value.agg #[.bool false, .slice none 0 0]).cells (grownCap w m 0 58 - m)).toList hcap (by unfold maxLen at hcap2; omega) (fun u hu => by
  have h2 := qCm (Array.mem_toList_iff.1 hu) (by simp [Value.cells]); simpa [Value.cells] using h2)
 have he : (cs ++ (Builtin.zeroCells (Value.agg #[.bool false, .slice none 0 0]).cells (grownCap w m 0 58 - m)).toList).toArray = cs.toArray ++ Builtin.zeroCells (Value.agg #[.bool false, .slice none 0 0]).cells (grownCap w m 0 58 - m) := by
  apply Array.ext'; simp
 rw [he] at hh; exact hK _ _ hh
open Go.RowKit
section
variable {S : Nat -> Prop} {w w' w0 : World}
theorem qAd.only {v : Value} {L : List Nat} (h : qAd .u32 w v L) (ho : qAc S w w') (hS : ∀ b, S b -> qAg w b) : qAd .u32 w' v L := by
 obtain ⟨a, cap, hv, h1, h2, hc⟩ := h; refine ⟨a, cap, hv, h1, h2, fun h0 => ?_⟩; obtain ⟨b, off, ha, hlt, hcc⟩ := hc h0; have hn : ¬ S b := fun hs => hS b hs _ _ (hcc 0 h0); exact ⟨b, off, ha, Nat.lt_of_lt_of_le hlt ho.size, fun j hj => (ho.cell (p := ⟨b, off + j, none⟩) hn hlt).trans (hcc j hj)⟩
theorem qAz.only {v : Value} {z : Int} (h : qAz w v z) (ho : qAc S w w') (hS : ∀ b, S b -> qAg w b) : qAz w' v z := by
 obtain ⟨vw, hv, hm⟩ := h; exact ⟨vw, hv, qAd.only hm ho hS⟩
theorem Bx.only {b : Nat} {z : Int} (h : Bx w b z) (ho : qAc S w w') (hS : ∀ b, S b -> qAg w b) (hn : ¬ S b) : Bx w' b z := by
 obtain ⟨s, a, n, c, h1, h2⟩ := h; exact ⟨s, a, n, c, (ho.block b h1.lt hn).trans h1, h2.only ho hS⟩
theorem WCs.only {cs : List Value} {zs : List Int} (h : WCs w cs zs) (ho : qAc S w w') (hS : ∀ b, S b -> qAg w b) : WCs w' cs zs := by
 refine ⟨h.1, h.2.1, fun j hj => ?_⟩; obtain ⟨a, n, c, h1, h2, h3⟩ := h.2.2 j hj; exact ⟨a, n, c, h1, h2, h3.only ho hS⟩
theorem qAF.only {g : Nat} {zs : List Int} (h : qAF w g zs) (ho : qAc S w w') (hS : ∀ b, S b -> qAg w b) (hn : ¬ S g) : qAF w' g zs := by
 obtain ⟨cs, h1, h2⟩ := h; exact ⟨cs, h1.only ho hn, h2.only ho hS⟩
theorem qAc.off' {g o1 o2 : Nat} {s : Bool} {a : Option Addr} {n c : Nat} (h : qAc S w0 w) (hg : S g \/ w0.heap.size <= g) : qAc S w0 (st2 w g o1 o2 s a n c) := by
 refine ⟨h.os, h.tape, h.output, by rw [qFb]; exact h.size, fun k hk hn => ?_⟩; have hne : k ≠ g := by rintro rfl; rcases hg with h1 | h1; exact hn h1; omega
 exact (Below.heap_setCell _ ⟨g, o2, none⟩ _ k hne).trans ((Below.heap_setCell w ⟨g, o1, none⟩ _ k hne).trans (h.block k hk hn))
theorem qAc.blw (h : qAc S w0 w) (hb : Below w.heap.size w w') : qAc S w0 w' := h.trans (qAc.of_below hb)
instance : Mv w w' (qAc S w0 w) (qAc S w0 w') := ⟨fun hb h => qAc.blw h hb⟩
end
theorem qA0 {x : Int} (h : x ≠ 0) : ∃ sg, qAK x 0 = sg /\ (sg != 0) = true /\ (sg == 0) = false := by
 refine ⟨_, rfl, ?_, ?_⟩
 ·rw [qJg]; simpa using h
 ·have := qJg x
  have h2 : (qAK x 0 != 0) = true := by rw [this]; simpa using h
  simpa using h2
theorem qCf {α : Type} {A B : List α} {j : Nat} (h : A.length = B.length) (hj : j <= B.length) : (A.take j ++ B.drop j).length = B.length := by simp; omega
theorem qIG {α : Type} {A B : List α} {j : Nat} (h : A.length = B.length) (hj : j < B.length) : (A.take j ++ B.drop j)[j]'(by rw [qCf h (by omega)]; exact hj) = B[j] := by
 rw [List.getElem_append_right (by simp; omega)]; simp [h, Nat.min_eq_left (Nat.le_of_lt hj)]
theorem qB2 {α : Type} {A B : List α} {j : Nat} (h : A.length = B.length) (hj : j < B.length) : (A.take j ++ B.drop j).set j (A[j]'(by omega)) = A.take (j + 1) ++ B.drop (j + 1) := by
 refine List.ext_getElem (by simp; omega) (fun k h1 h2 => ?_); rw [List.getElem_set]
 split
 ·next e =>
  subst e; rw [List.getElem_append_left (by simp; omega), List.getElem_take]
 ·next e =>
  rcases Nat.lt_or_ge k j with hk | hk
  ·rw [List.getElem_append_left (by simp; omega), List.getElem_append_left (by simp; omega), List.getElem_take, List.getElem_take]
  ·rw [List.getElem_append_right (by simp; omega), List.getElem_append_right (by simp; omega), List.getElem_drop, List.getElem_drop]
   have h3 : (A.take j).length = j := by simp; omega
   have h4 : (A.take (j + 1)).length = j + 1 := by simp; omega
   congr 1
   omega
section
variable {w w' w0 : World} {g o1 o2 b : Nat} {s : Bool} {a : Option Addr} {n c : Nat} {z : Int}
theorem qAc.offe {S : Nat -> Prop} (h : qAc S w0 w) (e : st2 w g o1 o2 s a n c = w') (hg : S g \/ w0.heap.size <= g) : qAc S w0 w' := e ▸ h.off' hg
end
abbrev Vec := Nat -> Int
def xpd (c : Nat) : (List Vec -> Int) -> List Vec -> Int
 | _, [] => 0
 | f, r :: rs => r c * f rs - xpd c (fun l => f (r :: l)) rs
def det : List Nat -> List Vec -> Int
 | [], _ => 1
 | c :: cs, R => xpd c (det cs) R
theorem qGJ (c : Nat) : ∀ (R : List Vec) (f g : List Vec -> Int), xpd c (fun l => f l - g l) R = xpd c f R - xpd c g R
 | [], f, g => by simp [xpd]
 | r :: rs, f, g => by
  simp only [xpd]; rw [qGJ c rs (fun l => f (r :: l)) (fun l => g (r :: l)), Int.mul_sub]; omega
theorem qE4 (c : Nat) (a : Int) : ∀ (R : List Vec) (f : List Vec -> Int), xpd c (fun l => a * f l) R = a * xpd c f R
 | [], f => by simp [xpd]
 | r :: rs, f => by
  simp only [xpd]; rw [qE4 c a rs (fun l => f (r :: l)), Int.mul_sub, <- Int.mul_assoc, <- Int.mul_assoc, Int.mul_comm (r c) a]
theorem qHn (a b : Nat) : ∀ (R : List Vec) (f : List Vec -> Int), xpd a (fun l => xpd b f l) R = -xpd b (fun l => xpd a f l) R
 | [], f => by simp [xpd]
 | r :: rs, f => by
  simp only [xpd]; rw [qGJ a rs, qGJ b rs, qE4, qE4, qHn a b rs (fun l => f (r :: l))]
  show _ = -(r b * xpd a (fun l => f l) rs - (r a * xpd b f rs - xpd b (fun l => xpd a (fun l => f (r :: l)) l) rs))
  have e1 : xpd a (fun l => f l) rs = xpd a f rs := rfl; have e2 : xpd b (fun l => f l) rs = xpd b f rs := rfl; rw [e1]; omega
theorem qFx (a b : Nat) (cs : List Nat) (R : List Vec) : det (a :: b :: cs) R = -det (b :: a :: cs) R := qHn a b R (det cs)
theorem qJ6 (a : Nat) (cs : List Nat) (R : List Vec) : det (a :: a :: cs) R = 0 := by
 have := qFx a a cs R; omega
theorem qGt {s : Int} {l1 l2 : List Nat} (x : Nat) (R : List Vec) (h : ∀ R, det l1 R = s * det l2 R) : det (x :: l1) R = s * det (x :: l2) R := by
 show xpd x (det l1) R = s * xpd x (det l2) R
 rw [<- qE4, show det l1 = fun l => s * det l2 l from funext h]
theorem qFw (c : Nat) : ∀ (cs : List Nat), c ∈ cs -> ∀ R, det (c :: cs) R = 0
 | [], h, _ => by simp at h
 | b :: cs, h, R => by
  by_cases hb : c = b
  ·subst hb; exact qJ6 _ _ _
  ·have hc : c ∈ cs := by simpa [hb] using h
   rw [qFx, qGt (s := 0) (l2 := []) b R (fun R => by rw [qFw c cs hc R, Int.zero_mul]), Int.zero_mul]; rfl
theorem qGu (c : Nat) : ∀ (cs : List Nat), c ∈ cs -> ∃ s : Int, (s = 1 \/ s = -1) /\ ∀ R, det cs R = s * det (c :: cs.erase c) R
 | [], h => by simp at h
 | b :: cs, h => by
  by_cases hb : b = c
  ·subst hb
   exact ⟨1, .inl rfl, fun R => by rw [List.erase_cons_head, Int.one_mul]⟩
  ·have hc : c ∈ cs := by rcases List.mem_cons.1 h with h | h; exact absurd h.symm hb; exact h
   obtain ⟨s, hs, h2⟩ := qGu c cs hc; refine ⟨-s, by omega, fun R => ?_⟩; rw [qGt b R h2, qFx, List.erase_cons_tail (by simpa using hb), Int.neg_mul, Int.mul_neg]
def comb : List Int -> List Vec -> Vec
 | q :: qs, r :: rs => fun j => q * r j + comb qs rs j
 | _, _ => fun _ => 0
def xco : (List Vec -> Int) -> List Vec -> List Int
 | _, [] => []
 | f, r :: rs => f rs :: (xco (fun l => f (r :: l)) rs).map (fun x => -x)
theorem qHT : ∀ (q : List Int) (R : List Vec) (j : Nat), comb (q.map (fun x => -x)) R j = -comb q R j
 | [], R, j => by cases R <;> simp [comb]
 | x :: q, [], j => by simp [comb]
 | x :: q, r :: R, j => by simp only [List.map_cons, comb, qHT q R j, Int.neg_mul]; omega
theorem qHo (c : Nat) : ∀ (R : List Vec) (f : List Vec -> Int), xpd c f R = comb (xco f R) R c
 | [], f => by simp [xpd, comb, xco]
 | r :: rs, f => by
  simp only [xpd, xco, comb, qHT]; rw [qHo c rs, Int.mul_comm]; omega
theorem qDl (c : Nat) (cs : List Nat) (R : List Vec) : det (c :: cs) R = comb (xco (det cs) R) R c := qHo c R _
def qAa (A : List Vec) (v : Vec) : Prop := ∃ q : List Int, ∀ j, v j = comb q A j
theorem qHU : ∀ (p q : List Int) (R : List Vec), ∃ s : List Int, ∀ j, comb p R j + comb q R j = comb s R j
 | [], q, R => ⟨q, fun j => by cases R <;> simp [comb]⟩
 | p, [], R => ⟨p, fun j => by cases R <;> simp [comb]⟩
 | x :: p, y :: q, [] => ⟨[], fun j => by simp [comb]⟩
 | x :: p, y :: q, r :: R => by
  obtain ⟨s, hs⟩ := qHU p q R; refine ⟨(x + y) :: s, fun j => ?_⟩; simp only [comb, <- hs j, Int.add_mul]; omega
theorem qGv (a : Int) : ∀ (q : List Int) (R : List Vec) (j : Nat), comb (q.map (fun x => a * x)) R j = a * comb q R j
 | [], R, j => by cases R <;> simp [comb]
 | x :: q, [], j => by simp [comb]
 | x :: q, r :: R, j => by simp only [List.map_cons, comb, qGv a q R j, Int.mul_add, Int.mul_assoc]
section
variable {A : List Vec} {v w : Vec}
theorem qAa.zero : qAa A (fun _ => 0) := ⟨[], fun j => by cases A <;> simp [comb]⟩
theorem qAa.add (h : qAa A v) (h2 : qAa A w) : qAa A (fun j => v j + w j) := by
 obtain ⟨p, hp⟩ := h; obtain ⟨q, hq⟩ := h2; obtain ⟨s, hs⟩ := qHU p q A; exact ⟨s, fun j => by show v j + w j = _; rw [hp, hq, hs]⟩
theorem qAa.smul (a : Int) (h : qAa A v) : qAa A (fun j => a * v j) := by
 obtain ⟨p, hp⟩ := h; exact ⟨p.map (fun x => a * x), fun j => by show a * v j = _; rw [qGv, hp]⟩
theorem qAa.congr (h : qAa A v) (he : ∀ j, v j = w j) : qAa A w := by
 obtain ⟨p, hp⟩ := h; exact ⟨p, fun j => by rw [<- he, hp]⟩
theorem qAa.sub (h : qAa A v) (h2 : qAa A w) : qAa A (fun j => v j - w j) := (h.add (h2.smul (-1))).congr (fun j => by omega)
theorem qAa.mem : ∀ {A : List Vec} {v : Vec}, v ∈ A -> qAa A v
 | [], v, h => by simp at h
 | a :: A, v, h => by
  rcases List.mem_cons.1 h with rfl | h
  ·exact ⟨[1], fun j => by cases A <;> simp [comb]⟩
  ·obtain ⟨q, hq⟩ := qAa.mem h
   exact ⟨0 :: q, fun j => by simp [comb, hq]⟩
theorem qAa.comb : ∀ (q : List Int) (R : List Vec), (∀ r ∈ R, qAa A r) -> qAa A (comb q R)
 | [], R, _ => qAa.zero.congr (fun j => by cases R <;> simp [Go.Proofs.Ytlmbebbdamgfpaa.comb])
 | x :: q, [], _ => qAa.zero.congr (fun j => by simp [Go.Proofs.Ytlmbebbdamgfpaa.comb])
 | x :: q, r :: R, h => ((h r (by simp)).smul x |>.add (qAa.comb q R (fun r hr => h r (by simp [hr])))).congr (fun j => by simp [Go.Proofs.Ytlmbebbdamgfpaa.comb])
theorem qAa.trans {B : List Vec} (h : qAa A v) (hB : ∀ r ∈ A, qAa B r) : qAa B v := by
 obtain ⟨q, hq⟩ := h; exact (qAa.comb q A hB).congr (fun j => (hq j).symm)
theorem qAa.lin {P : Vec -> Prop} (h : qAa A v) (h0 : P (fun _ => 0)) (ha : ∀ (x : Int) (u w : Vec), P u -> P w -> P (fun j => x * u j + w j)) (hc : ∀ u w : Vec, (∀ j, u j = w j) -> P u -> P w) (hA : ∀ r ∈ A, P r) : P v := by
 obtain ⟨q, hq⟩ := h; have key : ∀ (q : List Int) (R : List Vec), (∀ r ∈ R, P r) -> P (Go.Proofs.Ytlmbebbdamgfpaa.comb q R) := by
  intro q
  induction q with
  | nil => intro R _; exact hc _ _ (fun j => by cases R <;> simp [Go.Proofs.Ytlmbebbdamgfpaa.comb]) h0
  | cons x q ih =>
   intro R hR; cases R with
   | nil => exact hc _ _ (fun j => by simp [Go.Proofs.Ytlmbebbdamgfpaa.comb]) h0
   | cons r R => exact hc _ _ (fun j => by simp [Go.Proofs.Ytlmbebbdamgfpaa.comb]) (ha x r _ (hR r (by simp)) (ih R (fun r hr => hR r (by simp [hr]))))
 exact hc _ _ (fun j => (hq j).symm) (key q A hA)
end
theorem qIB (c : Nat) (M F : Nat) : ∀ (R : List Vec) (f : List Vec -> Int), (∀ r ∈ R, (r c).natAbs <= M) -> (∀ l, (∀ r ∈ l, r ∈ R) -> l.length < R.length -> (f l).natAbs <= F) -> (xpd c f R).natAbs <= R.length * (M * F)
 | [], f, _, _ => by simp [xpd]
 | r :: rs, f, h1, h2 => by
  have h3 := qIB c M F rs (fun l => f (r :: l)) (fun a ha => h1 a (by simp [ha])) (fun l hl hlen => h2 (r :: l) (fun a ha => by
   rcases List.mem_cons.1 ha with rfl | ha
   ·simp
   ·exact List.mem_cons_of_mem _ (hl a ha)) (by simp; omega))
  have h4 := h1 r (by simp); have h5 := h2 rs (fun a ha => by simp [ha]) (by simp); have h6 : (r c * f rs).natAbs <= M * F := by rw [Int.natAbs_mul]; exact Nat.mul_le_mul h4 h5
  simp only [xpd, List.length_cons, Nat.succ_mul]; omega
theorem qKt (M K : Nat) : ∀ (cs : List Nat) (R : List Vec), R.length <= K -> (∀ r ∈ R, ∀ j, (r j).natAbs <= M) -> (det cs R).natAbs <= (K * M) ^ cs.length
 | [], R, _, _ => by simp [det]
 | c :: cs, R, hK, hM => by
  have := qIB c M ((K * M) ^ cs.length) R (det cs) (fun r hr => hM r hr c) (fun l hl hlen => qKt M K cs l (by omega) (fun r hr => hM r (hl r hr))); rw [List.length_cons, Nat.pow_succ, Nat.mul_comm _ (K * M), Nat.mul_assoc]; exact Nat.le_trans this (Nat.mul_le_mul_right _ hK)
end Go.Proofs.Ytlmbebbdamgfpaa
