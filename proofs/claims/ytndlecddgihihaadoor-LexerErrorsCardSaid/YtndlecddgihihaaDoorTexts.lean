/- The generators of texts: Part, Text, Clean; Short, Pick. -/
import Derived.Test.YtndlecddgihihaaDoorAgrees
import Derived.Test.YtndlecddgihihaaDoorPos
import Derived.IntWalk
namespace Go.Proofs.YtndlecddgihihaaDoor
open Go.RowKit

def partsL : List Bs := [[97], [105, 114, 111, 110], [103, 111, 108, 100, 95, 50], [120], [49, 50], [48], [49, 48, 57, 57, 53, 49, 49, 54, 50, 55, 55, 55, 54], [48, 48, 55], [58], [59], [44], [40], [41], [123], [125], [61], [60], [62], [43], [46], [45, 62], [32], [10], [9],
  [35, 32, 99, 32, 34, 10], [35], [105, 116, 101, 109], [114, 117, 108, 101], [97, 50, 51, 52, 53, 54, 55, 56, 57, 48, 49, 50, 51, 52, 53, 54], [97, 50, 51, 52, 53, 54, 55, 56, 57, 48, 49, 50, 51, 52, 53, 54, 55], [49, 48, 57, 57, 53, 49, 49, 54, 50, 55, 55, 55, 55], [45], [65], [95], [195, 169], [13]]

def partS (i : Nat) : Bs := partsL.getD i []
theorem partS_len (i : Nat) : (partS i).length ≤ 17 := by
  unfold partS
  rcases Nat.lt_or_ge i 36 with h | h
  · have : ∀ j : Fin 36, (partsL.getD j.1 []).length ≤ 17 := by decide +kernel
    exact this ⟨i, h⟩
  · rw [List.getD_eq_getElem?_getD, List.getElem?_eq_none (by exact h)]; simp

def partCells : List Value := partsL.map fun b => .string ⟨b.toArray⟩

theorem part_get (i : Nat) (h : i < partCells.length) : partCells[i]'h = .string ⟨(partS i).toArray⟩ := by
  have h' : i < partsL.length := by simpa [partCells] using h
  unfold partS
  rw [List.getD_eq_getElem?_getD, List.getElem?_eq_getElem h']
  simp [partCells]

set_option maxRecDepth 100000 in
set_option maxHeartbeats 1000000 in
theorem part_any (n : Int) (w : World) (h1 : -9223372036854775808 ≤ n) (h2 : n ≤ 9223372036854775807) :
    Calls Tryd.prog 24 #[.int .i64 n] w fun e w' => e = .returned (.string ⟨(partS (around n 36).toNat).toArray⟩) ∧ w' = w.alloc (.cells partCells.toArray 9) := by
  have hr := around_range n 36 (by omega)
  have hp : Hid (∀ h, partCells[(around n 36).toNat]'h = .string ⟨(partS (around n 36).toNat).toArray⟩) := Lib.hid (fun h => part_get _ h)
  have Ha := Lib.hid (fun w => around_any n 36 w h1 h2 (by omega) (by omega))
  generalize partS (around n 36).toNat = r at *
  generalize around n 36 = q at *
  go_enter Tryd.func24, Tryd.ntmps24
  go_wp2_with (go_at_call 15; refine (Ha.out _).mono ?_; rintro e w' ⟨rfl, rfl⟩)
  go_ret
  refine ⟨?_, ?_⟩
  · have hl : q.toNat < partCells.length := by show q.toNat < 36; omega
    exact congrArg Ending.returned (hp.out hl)
  · rfl

/-- the text of pieces -/
def textTo (f : Int → Bs) (zs : List Int) : Nat → Bs
  | 0 => []
  | k + 1 => textTo f zs k ++ f (zs[k]?.getD 0)

theorem textTo_len (f : Int → Bs) (c : Nat) (hf : ∀ n, (f n).length ≤ c) (zs : List Int) : ∀ k, (textTo f zs k).length ≤ c * k
  | 0 => by simp [textTo]
  | k + 1 => by
    have := textTo_len f c hf zs k
    have := hf (zs[k]?.getD 0)
    unfold textTo
    rw [List.length_append, Nat.mul_succ]; omega

def partOf (n : Int) : Bs := partS (around n 36).toNat
def textOf (zs : List Int) (len : Nat) : Bs := textTo partOf zs (min len 24)

/-- a slice of ints as it is read -/
def IntsAt (w : World) (v : Value) (zs : List Int) (len : Nat) : Prop :=
  (∃ a cap, v = .slice a 0 cap ∧ len = 0 ∧ cap ≤ 9223372036854775807) ∨ ∃ b off cap, v = .slice (some ⟨b, off, none⟩) len cap ∧ b < w.heap.size ∧ len ≤ cap ∧ cap ≤ 9223372036854775807 ∧ (∀ j, j < len → w.cell? ⟨b, off + j, none⟩ = some (.int .i64 (zs[j]?.getD 0))) ∧ (∀ j, j < len → -9223372036854775808 ≤ zs[j]?.getD 0 ∧ zs[j]?.getD 0 ≤ 9223372036854775807)

theorem IntsAt.below {w w' : World} {v : Value} {zs : List Int} {len : Nat} (h : IntsAt w v zs len) {B : Nat} (hB : w.heap.size ≤ B) (hb : Below B w w') : IntsAt w' v zs len := by
  rcases h with h | ⟨b, off, cap, hv, hlt, h1, h2, hc, hr⟩
  · exact .inl h
  · exact .inr ⟨b, off, cap, hv, Nat.lt_of_lt_of_le hlt hb.size, h1, h2, fun j hj => (hb.cell (p := ⟨b, off + j, none⟩) (Nat.lt_of_lt_of_le hlt hB)).trans (hc j hj), hr⟩

theorem ba_append (a b : Bs) : (⟨a.toArray⟩ : ByteArray) ++ ⟨b.toArray⟩ = ⟨(a ++ b).toArray⟩ := by
  apply ByteArray.ext
  rw [ByteArray.data_append]
  simp

theorem below_part (w : World) : Below w.heap.size w (w.alloc (.cells partCells.toArray 9)) := (Below.refl _ _).alloc (Nat.le_refl _) _

set_option maxHeartbeats 1000000 in
theorem text_some (b off cap : Nat) (zs : List Int) (len : Nat) (w : World) (hb : b < w.heap.size) (hc1 : len ≤ cap) (hc2 : cap ≤ 9223372036854775807)
    (hc : Hid (∀ j, j < len → w.cell? ⟨b, off + j, none⟩ = some (.int .i64 (zs[j]?.getD 0)))) (hr : Hid (∀ j, j < len → -9223372036854775808 ≤ zs[j]?.getD 0 ∧ zs[j]?.getD 0 ≤ 9223372036854775807)) :
    Calls Tryd.prog 11 #[.slice (some ⟨b, off, none⟩) len cap] w fun e w' => e = .returned (.string ⟨(textOf zs len).toArray⟩) ∧ Below w.heap.size w w' := by
  have hN : min len 24 ≤ len ∧ min len 24 ≤ 24 ∧ (len < 24 → min len 24 = len) ∧ (24 ≤ len → min len 24 = 24) := by omega
  have HN := Lib.hid hN
  have hN1 := hN.1
  have hN2 := hN.2.1
  clear hN
  unfold textOf
  generalize min len 24 = N at *
  go_enter Tryd.func11, Tryd.ntmps11
  go_wp2
  go_loopw [3, 4] (fun t i wr => ∃ (k : Nat), k ≤ N ∧ i = .int .i64 k ∧ t = .string ⟨(textTo partOf zs k).toArray⟩ ∧ Hid (Below w.heap.size w wr)) (fun _ i _ => len - (intOf i).toNat)
  case atStart => exact ⟨0, by omega, rfl, rfl, Lib.hid (Below.refl _ _)⟩
  case round =>
    obtain ⟨k, hk, rfl, rfl, hB⟩ := hrel
    by_cases hlt : k < N
    · have hcell := (hB.out.cell (p := ⟨b, off + k, none⟩) hb).trans (hc.out k (by omega))
      have hrk := hr.out k (by omega)
      have hst : Hid (textTo partOf zs (k + 1) = textTo partOf zs k ++ partOf (zs[k]?.getD 0)) := rfl
      have hl1 := textTo_len partOf 17 (fun n => partS_len _) zs k
      have hl2 : (partOf (zs[k]?.getD 0)).length ≤ 17 := partS_len _
      have Hp := Lib.hid (part_any (zs[k]?.getD 0) wr hrk.1 hrk.2)
      have hwr : w.heap.size ≤ wr.heap.size := hB.out.size
      have h24 : k < 24 := by omega
      have hkl : k < len := by omega
      change Hid (Calls Tryd.prog 24 #[.int .i64 (zs[k]?.getD 0)] wr fun e w' => e = .returned (.string ⟨(partOf (zs[k]?.getD 0)).toArray⟩) ∧ w' = wr.alloc (.cells partCells.toArray 9)) at Hp
      generalize partOf (zs[k]?.getD 0) = r at *
      generalize zs[k]?.getD 0 = z at *
      generalize hT : textTo partOf zs k = T at *
      have HT := Lib.hid hT
      clear hT
      go_wp2_with (go_at_call 24; refine Hp.out.mono ?_; rintro e w1 ⟨rfl, hw1⟩; have Hw1 := Lib.hid hw1; clear hw1)
      go_roundw
      case rel => exact ⟨k + 1, by omega, by go_num, by rw [hst.out, ba_append], Lib.hid (by rw [Hw1.out]; exact hB.out.trans ((below_part wr).mono hwr))⟩
      case measure => simp [intOf]; omega
    · obtain rfl : k = N := by omega
      by_cases hlen : len < 24
      · obtain rfl : k = len := HN.out.2.2.1 hlen
        clear hlt
        go_wp2
        go_ret
        exact ⟨rfl, hB.out⟩
      · have hk24 : k = 24 := HN.out.2.2.2 (by omega)
        subst hk24
        clear hlt
        go_wp2
        all_goals (go_ret; exact ⟨rfl, hB.out⟩)

theorem text_nil (a : Option Addr) (cap : Nat) (_hc : cap ≤ 9223372036854775807) (w : World) (zs : List Int) :
    Calls Tryd.prog 11 #[.slice a 0 cap] w fun e w' => e = .returned (.string ⟨(textOf zs 0).toArray⟩) ∧ w = w' := by
  go_enter Tryd.func11, Tryd.ntmps11
  go_wp2
  go_loop [3, 4] (fun v i => v = .string ⟨#[]⟩ ∧ i = .int .i64 0) (fun _ _ => 0)
  case atStart => exact ⟨rfl, rfl⟩
  case round =>
    obtain ⟨rfl, rfl⟩ := hrel
    go_wp2
    go_ret
    exact ⟨rfl, rfl⟩

theorem text_any (v : Value) (zs : List Int) (len : Nat) (w : World) (h : IntsAt w v zs len) :
    Calls Tryd.prog 11 #[v] w fun e w' => e = .returned (.string ⟨(textOf zs len).toArray⟩) ∧ Below w.heap.size w w' := by
  rcases h with ⟨a, cap, rfl, rfl, hcap⟩ | ⟨b, off, cap, rfl, hlt, h1, h2, hc, hr⟩
  · refine (text_nil a cap hcap w zs).mono ?_
    rintro e w' ⟨rfl, rfl⟩
    exact ⟨rfl, Below.refl _ _⟩
  · exact text_some b off cap zs len w hlt h1 h2 hc hr

theorem textOf_len (zs : List Int) (len : Nat) : (textOf zs len).length ≤ 408 := by
  unfold textOf
  have := textTo_len partOf 17 (fun n => partS_len _) zs (min len 24)
  omega

set_option maxHeartbeats 400000 in
theorem short_any (s : ByteArray) (m : Nat) (w : World) (_hs : s.size ≤ 9223372036854775807) (hm : m ≤ 4611686018427387904) :
    Calls Tryd.prog 13 #[.string s, .int .i64 m] w fun e w' => e = .returned (.string (s.extract 0 m)) ∧ w = w' := by
  by_cases h : m < s.size
  · go_enter Tryd.func13, Tryd.ntmps13
    go_wp2
    go_ret
    exact ⟨rfl, rfl⟩
  · have he : Hid (s.extract 0 m = s) := Lib.hid (by
      apply ByteArray.ext
      rw [ByteArray.data_extract]
      have : s.data.size = s.size := rfl
      rw [Array.extract_eq_self_of_le (by omega)])
    go_enter Tryd.func13, Tryd.ntmps13
    go_wp2
    go_ret
    exact ⟨by rw [he.out]; rfl, rfl⟩

/-- blanks behind a piece -/
def sepL : List Bs := [[32], [10], [10, 9]]
def sepOf (n : Int) : Bs := sepL.getD (around (n.tdiv 29) 3).toNat []
def cleanOf (n : Int) : Bs := partS (around n 29).toNat ++ sepOf n

theorem around_small (n m : Int) (h0 : 0 ≤ n) (h1 : n < m) : around n m = n := by
  unfold around; rw [if_neg (by omega), Int.emod_eq_of_lt h0 h1]

theorem sepOf_len (n : Int) : (sepOf n).length ≤ 2 := by
  unfold sepOf
  have h := around_range (n.tdiv 29) 3 (by omega)
  generalize around (n.tdiv 29) 3 = q at *
  have hq : q = 0 ∨ q = 1 ∨ q = 2 := by omega
  rcases hq with rfl | rfl | rfl <;> decide

theorem cleanOf_len (n : Int) : (cleanOf n).length ≤ 19 := by
  unfold cleanOf
  have := partS_len (around n 29).toNat
  have := sepOf_len n
  rw [List.length_append]; omega

/-- what is held may become more on the way -/
theorem wpAnyH_strong {P : Program} {md : Region.Mode} {ops : Array Oper} {Q : Exit → Act → World → Prop} {S S' : World → Prop} (hS : ∀ w, S' w → S w) :
    ∀ (fuel : Nat) (listed : Array Bool) (a : Act) (w : World), wpAnyH P md ops Q S' fuel listed a w → wpAnyH P md ops Q S fuel listed a w
  | 0, _, _, _, h => h
  | fuel + 1, _listed, _a, _w, h => ⟨h.1, fun i hi => wpOp_mono (fun _ _ h3 => ⟨hS _ h3.1, wpAnyH_strong hS fuel _ _ _ h3.2⟩) (h.2 i hi)⟩

theorem sep_cell (q : Int) (h0 : 0 ≤ q) (h1 : q < 3) (w : World) (g : Nat) (hg : g = w.heap.size) :
    (w.alloc (.cells #[.string ⟨#[32]⟩, .string ⟨#[10]⟩, .string ⟨#[10, 9]⟩] 9)).cell? ⟨g, q.toNat, none⟩ = some (.string ⟨(sepL.getD q.toNat []).toArray⟩) := by
  subst hg
  rw [cell_of_row _ w.heap.size q.toNat _ 9 (0, 0) (World.alloc_heap_new w _)]
  have hq : q = 0 ∨ q = 1 ∨ q = 2 := by omega
  rcases hq with rfl | rfl | rfl <;> rfl

theorem strongH {P : Program} {md : Region.Mode} {ops : Array Oper} {Q : Exit → Act → World → Prop} {S S' : World → Prop} {fuel : Nat} {listed : Array Bool} {a : Act} {w : World} (hS : ∀ w, S' w → S w) (h0 : S' w)
    (h : S' w → wpAnyH P md ops Q S' fuel listed a w) : wpAnyH P md ops Q S fuel listed a w := wpAnyH_strong hS _ _ _ _ (h h0)

/-- take operation i first: it fills slot d by v in every world that is held -/
theorem takeH {P : Program} {ops : Array Oper} {Q : Exit → Act → World → Prop} {md : Region.Mode} {S : World → Prop} (i d : Nat) {oi : Oper} {v : Value} {fuel : Nat} {listed : Array Bool} {tmps : Array Value} {ds : List Deferred} {w : World} (hi : ops[i]? = some oi) (hd : oi.dst = some d)
    (hs : Region.noSelect ops = true) (hf : Region.free md ops listed i = true) (hr : (Region.ready md ops listed).contains i = true)
    (hQ : ∀ c a w, Q (.panic c) (a.put oi.dst v) w → Q (.panic c) a w) (hw : Region.wanted oi (yielded ops tmps) = true) (hy : ∀ w, S w → (execOp (Act.eval ⟨tmps, ds⟩) oi).run P w = .ok (.value v) w) (hS : S w)
    (h : wpAnyH P md ops Q S fuel (listed.setIfInBounds i true) ⟨tmps.setIfInBounds d v, ds⟩ w) : wpAnyH P md ops Q S (fuel + 1) listed ⟨tmps, ds⟩ w :=
  wpAnyH_take hi hs hf hr hQ (Or.inl ⟨hw, hy⟩) hS (by rw [hd]; exact h)

set_option maxHeartbeats 2000000 in
theorem clean_some (b off cap : Nat) (zs : List Int) (len : Nat) (w : World) (hb : b < w.heap.size) (hc1 : len ≤ cap) (hc2 : cap ≤ 9223372036854775807)
    (hc : Hid (∀ j, j < len → w.cell? ⟨b, off + j, none⟩ = some (.int .i64 (zs[j]?.getD 0)))) (hr : Hid (∀ j, j < len → -9223372036854775808 ≤ zs[j]?.getD 0 ∧ zs[j]?.getD 0 ≤ 9223372036854775807)) :
    Calls Tryd.prog 12 #[.slice (some ⟨b, off, none⟩) len cap] w fun e w' => e = .returned (.string ⟨(textTo cleanOf zs (min len 24)).toArray⟩) ∧ Below w.heap.size w w' := by
  have hN : min len 24 ≤ len ∧ min len 24 ≤ 24 ∧ (len < 24 → min len 24 = len) ∧ (24 ≤ len → min len 24 = 24) := by omega
  have HN := Lib.hid hN
  have hN1 := hN.1
  have hN2 := hN.2.1
  clear hN
  generalize min len 24 = N at *
  go_enter Tryd.func12, Tryd.ntmps12
  go_wp2
  go_loopw [3, 4] (fun t i wr => ∃ (k : Nat), k ≤ N ∧ i = .int .i64 k ∧ t = .string ⟨(textTo cleanOf zs k).toArray⟩ ∧ Hid (Below w.heap.size w wr)) (fun _ i _ => len - (intOf i).toNat)
  case atStart => exact ⟨0, by omega, rfl, rfl, Lib.hid (Below.refl _ _)⟩
  case round =>
    obtain ⟨k, hk, rfl, rfl, hB⟩ := hrel
    by_cases hlt : k < N
    · have hcell := (hB.out.cell (p := ⟨b, off + k, none⟩) hb).trans (hc.out k (by omega))
      have hrk := hr.out k (by omega)
      have hwr : w.heap.size ≤ wr.heap.size := hB.out.size
      have h24 : k < 24 := by omega
      have hkl : k < len := by omega
      have hk0 : (0 : Int) ≤ (k : Int) := by omega
      have hk1 : (k : Int) < (len : Int) := by omega
      have hst : Hid (textTo cleanOf zs (k + 1) = textTo cleanOf zs k ++ (partS (around (zs[k]?.getD 0) 29).toNat ++ sepL.getD (around ((zs[k]?.getD 0).tdiv 29) 3).toNat [])) := rfl
      generalize zs[k]?.getD 0 = z at *
      have hq1 := around_range z 29 (by omega)
      have hq2 := around_range (z.tdiv 29) 3 (by omega)
      have hd1 : -9223372036854775808 ≤ z.tdiv 29 ∧ z.tdiv 29 ≤ 9223372036854775807 := by
        rcases Int.le_total 0 z with h | h
        · rw [Int.tdiv_eq_ediv_of_nonneg h]; omega
        · have : z = -(-z) := by omega
          rw [this, Int.neg_tdiv, Int.tdiv_eq_ediv_of_nonneg (by omega)]; omega
      have Ha1 := Lib.hid (fun w => around_any z 29 w (by omega) (by omega) (by omega) (by omega))
      have Ha2 := Lib.hid (fun w => around_any (z.tdiv 29) 3 w (by omega) (by omega) (by omega) (by omega))
      have Hp := Lib.hid (fun w => part_any (around z 29) w (by omega) (by omega))
      have hsp : partS (around (around z 29) 36).toNat = partS (around z 29).toNat := by
        rw [around_small _ 36 hq1.1 (by omega)]
      rw [hsp] at Hp
      clear hsp
      have hl1 := textTo_len cleanOf 19 cleanOf_len zs k
      have hl2 := partS_len (around z 29).toNat
      generalize around z 29 = q1 at *
      generalize around (z.tdiv 29) 3 = q2 at *
      generalize partS q1.toNat = r at *
      generalize textTo cleanOf zs k = T at *
      have hwd : IntKind.i64.wrap (z.tdiv 29) = z.tdiv 29 := IntWalk.i64_in _ hd1
      have hbw : b < wr.heap.size := by omega
      have hsp2 : (sepL.getD q2.toNat []).length ≤ 2 := by
        have hq : q2 = 0 ∨ q2 = 1 ∨ q2 = 2 := by omega
        rcases hq with rfl | rfl | rfl <;> decide
      have sepc := sep_cell q2 hq2.1 hq2.2
      generalize sepL.getD q2.toNat [] = sp at *
      have hcat1 : ¬ (9223372036854775807 < T.length + r.length) := by omega
      have hcat2 : ¬ (9223372036854775807 < T.length + r.length + sp.length) := by omega
      go_wp2_with fail
      refine wp_region_held_drew (S := fun w' => w'.cell? ⟨b, off + k, none⟩ = some (.int .i64 z)) (by kernel_rfl) (by simpa using hcell) (fun hHeld => ?_)
      refine takeH 0 15 (v := ?_) rfl rfl (by kernel_rfl) (by kernel_rfl) (by kernel_rfl) (fun _ _ _ h => h) (by rfl) ?_ (by assumption) ?_
      rotate_left
      · (intro w hSw; go_simp; first | done | with_reducible rfl)
      simp only [List.setIfInBounds_toArray, List.set_cons_zero, List.set_cons_succ]
      refine takeH 1 16 (v := ?_) rfl rfl (by kernel_rfl) (by kernel_rfl) (by kernel_rfl) (fun _ _ _ h => h) (by rfl) ?_ (by assumption) ?_
      rotate_left
      · (intro w hSw; go_simp; first | done | with_reducible rfl)
      simp only [List.setIfInBounds_toArray, List.set_cons_zero, List.set_cons_succ]
      refine takeH 2 17 (v := ?_) rfl rfl (by kernel_rfl) (by kernel_rfl) (by kernel_rfl) (fun _ _ _ h => h) (by rfl) ?_ (by assumption) ?_
      rotate_left
      · (intro w hSw; go_simp; first | done | with_reducible rfl)
      simp only [List.setIfInBounds_toArray, List.set_cons_zero, List.set_cons_succ]
      refine takeH 3 18 (v := ?_) rfl rfl (by kernel_rfl) (by kernel_rfl) (by kernel_rfl) (fun _ _ _ h => h) (by rfl) ?_ (by assumption) ?_
      rotate_left
      · (intro w hSw; go_simp; first | done | with_reducible rfl)
      simp only [List.setIfInBounds_toArray, List.set_cons_zero, List.set_cons_succ]
      refine takeH 4 19 (v := ?_) rfl rfl (by kernel_rfl) (by kernel_rfl) (by kernel_rfl) (fun _ _ _ h => h) (by rfl) ?_ (by assumption) ?_
      rotate_left
      · (intro w hSw; go_simp; first | done | with_reducible rfl)
      simp only [List.setIfInBounds_toArray, List.set_cons_zero, List.set_cons_succ]
      refine takeH 9 24 (v := ?_) rfl rfl (by kernel_rfl) (by kernel_rfl) (by kernel_rfl) (fun _ _ _ h => h) (by rfl) ?_ (by assumption) ?_
      rotate_left
      · (intro w hSw; go_simp; first | done | with_reducible rfl)
      simp only [List.setIfInBounds_toArray, List.set_cons_zero, List.set_cons_succ]
      refine takeH 10 25 (v := ?_) rfl rfl (by kernel_rfl) (by kernel_rfl) (by kernel_rfl) (fun _ _ _ h => h) (by rfl) ?_ (by assumption) ?_
      rotate_left
      · (intro w hSw; go_simp; first | done | with_reducible rfl)
      simp only [List.setIfInBounds_toArray, List.set_cons_zero, List.set_cons_succ]
      refine takeH 11 26 (v := ?_) rfl rfl (by kernel_rfl) (by kernel_rfl) (by kernel_rfl) (fun _ _ _ h => h) (by rfl) ?_ (by assumption) ?_
      rotate_left
      · (intro w hSw; go_simp; first | done | with_reducible rfl)
      simp only [List.setIfInBounds_toArray, List.set_cons_zero, List.set_cons_succ]
      refine takeH 12 27 (v := ?_) rfl rfl (by kernel_rfl) (by kernel_rfl) (by kernel_rfl) (fun _ _ _ h => h) (by rfl) ?_ (by assumption) ?_
      rotate_left
      · (intro w hSw; go_simp; first | done | with_reducible rfl)
      simp only [List.setIfInBounds_toArray, List.set_cons_zero, List.set_cons_succ]
      refine takeH 13 28 (v := ?_) rfl rfl (by kernel_rfl) (by kernel_rfl) (by kernel_rfl) (fun _ _ _ h => h) (by rfl) ?_ (by assumption) ?_
      rotate_left
      · (intro w hSw; go_simp; first | done | with_reducible rfl)
      simp only [List.setIfInBounds_toArray, List.set_cons_zero, List.set_cons_succ]
      refine wpAnyH_ready (rs := [5, 8]) (by kernel_rfl) (by simp) ?_
      refine AllReadyH.cons (i := 5) rfl (fun K hK => ?_) ?_
      · skip
        go_simp
        refine (Ha1.out _).mono ?_; rintro e w' ⟨rfl, rfl⟩
        go_wp2_with fail
        refine hK.out _ _ ?_ (fun hHeld => ?_)
        · (first | exact hHeld | go_keep)
        clear hK K
        try simp only [Act.put, List.setIfInBounds_toArray, List.set_cons_zero, List.set_cons_succ]
        refine wpAnyH_ready (rs := [6, 8]) (by kernel_rfl) (by simp) ?_
        refine AllReadyH.cons (i := 6) rfl (fun K hK => ?_) ?_
        · skip
          go_simp
          refine (Hp.out _).mono ?_; rintro e w' ⟨rfl, rfl⟩
          go_wp2_with fail
          refine hK.out _ _ ?_ (fun hHeld => ?_)
          · (first | exact hHeld | go_keep)
          clear hK K
          try simp only [Act.put, List.setIfInBounds_toArray, List.set_cons_zero, List.set_cons_succ]
          refine takeH 7 22 (v := ?_) rfl rfl (by kernel_rfl) (by kernel_rfl) (by kernel_rfl) (fun _ _ _ h => h) (by rfl) ?_ (by assumption) ?_
          rotate_left
          · (intro w hSw; go_simp; first | done | with_reducible rfl)
          simp only [List.setIfInBounds_toArray, List.set_cons_zero, List.set_cons_succ]
          refine wpAnyH_ready (rs := [8, 14]) (by kernel_rfl) (by simp) ?_
          refine AllReadyH.cons (i := 8) rfl (fun K hK => ?_) ?_
          · skip
            go_simp
            refine hK.out _ _ ?_ (fun hHeld => ?_)
            · (first | exact hHeld | go_keep)
            clear hK K
            try simp only [Act.put, List.setIfInBounds_toArray, List.set_cons_zero, List.set_cons_succ]
            refine strongH (S' := fun w' => w'.cell? ⟨b, off + k, none⟩ = some (.int .i64 z) ∧ w'.cell? ⟨wr.heap.size + 1, q2.toNat, none⟩ = some (.string ⟨sp.toArray⟩)) (fun _ h => h.1) ⟨hHeld, ?_⟩ (fun hHeld => ?_)
            · exact sepc _ _ (by simp)
            refine wpAnyH_ready (rs := [14]) (by kernel_rfl) (by simp) ?_
            refine AllReadyH.cons (i := 14) rfl (fun K hK => ?_) ?_
            · skip
              go_simp
              refine (Ha2.out _).mono ?_; rintro e w' ⟨rfl, rfl⟩
              go_wp2_with fail
              refine hK.out _ _ ?_ (fun hHeld => ?_)
              · (first | exact hHeld | go_keep)
              clear hK K
              try simp only [Act.put, List.setIfInBounds_toArray, List.set_cons_zero, List.set_cons_succ]
              refine takeH 15 30 (v := ?_) rfl rfl (by kernel_rfl) (by kernel_rfl) (by kernel_rfl) (fun _ _ _ h => h) (by rfl) ?_ (by assumption) ?_
              rotate_left
              · (intro w hSw; go_simp; first | done | with_reducible rfl)
              simp only [List.setIfInBounds_toArray, List.set_cons_zero, List.set_cons_succ]
              refine takeH 16 31 (v := ?_) rfl rfl (by kernel_rfl) (by kernel_rfl) (by kernel_rfl) (fun _ _ _ h => h) (by rfl) ?_ (by assumption) ?_
              rotate_left
              · (intro w hSw; go_simp; first | done | with_reducible rfl)
              simp only [List.setIfInBounds_toArray, List.set_cons_zero, List.set_cons_succ]
              refine takeH 17 32 (v := ?_) rfl rfl (by kernel_rfl) (by kernel_rfl) (by kernel_rfl) (fun _ _ _ h => h) (by rfl) ?_ (by assumption) ?_
              rotate_left
              · (intro w hSw; go_simp; first | done | with_reducible rfl)
              simp only [List.setIfInBounds_toArray, List.set_cons_zero, List.set_cons_succ]
              refine takeH 18 3 (v := ?_) rfl rfl (by kernel_rfl) (by kernel_rfl) (by kernel_rfl) (fun _ _ _ h => h) (by rfl) ?_ (by assumption) ?_
              rotate_left
              · (intro w hSw; go_simp; first | done | with_reducible rfl)
              simp only [List.setIfInBounds_toArray, List.set_cons_zero, List.set_cons_succ]
              refine wpAnyH_done (by kernel_rfl) ?_ _
              clear hHeld
              go_wp2
              go_roundw
              case rel => exact ⟨k + 1, by omega, by go_num, by rw [hst.out, ba_append, ba_append, List.append_assoc], Lib.hid (((hB.out.alloc hwr _).alloc (by simp; omega) _).drew)⟩
              case measure => simp [intOf]; omega
            exact AllReadyH.nil
          refine AllReadyH.cons (i := 14) rfl (fun K hK => ?_) ?_
          · skip
            go_simp
            refine (Ha2.out _).mono ?_; rintro e w' ⟨rfl, rfl⟩
            go_wp2_with fail
            refine hK.out _ _ ?_ (fun hHeld => ?_)
            · (first | exact hHeld | go_keep)
            clear hK K
            try simp only [Act.put, List.setIfInBounds_toArray, List.set_cons_zero, List.set_cons_succ]
            refine wpAnyH_ready (rs := [8]) (by kernel_rfl) (by simp) ?_
            refine AllReadyH.cons (i := 8) rfl (fun K hK => ?_) ?_
            · skip
              go_simp
              refine hK.out _ _ ?_ (fun hHeld => ?_)
              · (first | exact hHeld | go_keep)
              clear hK K
              try simp only [Act.put, List.setIfInBounds_toArray, List.set_cons_zero, List.set_cons_succ]
              refine strongH (S' := fun w' => w'.cell? ⟨b, off + k, none⟩ = some (.int .i64 z) ∧ w'.cell? ⟨wr.heap.size + 1, q2.toNat, none⟩ = some (.string ⟨sp.toArray⟩)) (fun _ h => h.1) ⟨hHeld, ?_⟩ (fun hHeld => ?_)
              · exact sepc _ _ (by simp)
              refine takeH 15 30 (v := ?_) rfl rfl (by kernel_rfl) (by kernel_rfl) (by kernel_rfl) (fun _ _ _ h => h) (by rfl) ?_ (by assumption) ?_
              rotate_left
              · (intro w hSw; go_simp; first | done | with_reducible rfl)
              simp only [List.setIfInBounds_toArray, List.set_cons_zero, List.set_cons_succ]
              refine takeH 16 31 (v := ?_) rfl rfl (by kernel_rfl) (by kernel_rfl) (by kernel_rfl) (fun _ _ _ h => h) (by rfl) ?_ (by assumption) ?_
              rotate_left
              · (intro w hSw; go_simp; first | done | with_reducible rfl)
              simp only [List.setIfInBounds_toArray, List.set_cons_zero, List.set_cons_succ]
              refine takeH 17 32 (v := ?_) rfl rfl (by kernel_rfl) (by kernel_rfl) (by kernel_rfl) (fun _ _ _ h => h) (by rfl) ?_ (by assumption) ?_
              rotate_left
              · (intro w hSw; go_simp; first | done | with_reducible rfl)
              simp only [List.setIfInBounds_toArray, List.set_cons_zero, List.set_cons_succ]
              refine takeH 18 3 (v := ?_) rfl rfl (by kernel_rfl) (by kernel_rfl) (by kernel_rfl) (fun _ _ _ h => h) (by rfl) ?_ (by assumption) ?_
              rotate_left
              · (intro w hSw; go_simp; first | done | with_reducible rfl)
              simp only [List.setIfInBounds_toArray, List.set_cons_zero, List.set_cons_succ]
              refine wpAnyH_done (by kernel_rfl) ?_ _
              clear hHeld
              go_wp2
              go_roundw
              case rel => exact ⟨k + 1, by omega, by go_num, by rw [hst.out, ba_append, ba_append, List.append_assoc], Lib.hid (((hB.out.alloc hwr _).alloc (by simp; omega) _).drew)⟩
              case measure => simp [intOf]; omega
            exact AllReadyH.nil
          exact AllReadyH.nil
        refine AllReadyH.cons (i := 8) rfl (fun K hK => ?_) ?_
        · skip
          go_simp
          refine hK.out _ _ ?_ (fun hHeld => ?_)
          · (first | exact hHeld | go_keep)
          clear hK K
          try simp only [Act.put, List.setIfInBounds_toArray, List.set_cons_zero, List.set_cons_succ]
          refine strongH (S' := fun w' => w'.cell? ⟨b, off + k, none⟩ = some (.int .i64 z) ∧ w'.cell? ⟨wr.heap.size, q2.toNat, none⟩ = some (.string ⟨sp.toArray⟩)) (fun _ h => h.1) ⟨hHeld, ?_⟩ (fun hHeld => ?_)
          · exact sepc _ _ (by simp)
          refine wpAnyH_ready (rs := [6]) (by kernel_rfl) (by simp) ?_
          refine AllReadyH.cons (i := 6) rfl (fun K hK => ?_) ?_
          · skip
            go_simp
            refine (Hp.out _).mono ?_; rintro e w' ⟨rfl, rfl⟩
            go_wp2_with fail
            refine hK.out _ _ ?_ (fun hHeld => ?_)
            · (first | exact hHeld | go_keep)
            clear hK K
            try simp only [Act.put, List.setIfInBounds_toArray, List.set_cons_zero, List.set_cons_succ]
            refine takeH 7 22 (v := ?_) rfl rfl (by kernel_rfl) (by kernel_rfl) (by kernel_rfl) (fun _ _ _ h => h) (by rfl) ?_ (by assumption) ?_
            rotate_left
            · (intro w hSw; go_simp; first | done | with_reducible rfl)
            simp only [List.setIfInBounds_toArray, List.set_cons_zero, List.set_cons_succ]
            refine wpAnyH_ready (rs := [14]) (by kernel_rfl) (by simp) ?_
            refine AllReadyH.cons (i := 14) rfl (fun K hK => ?_) ?_
            · skip
              go_simp
              refine (Ha2.out _).mono ?_; rintro e w' ⟨rfl, rfl⟩
              go_wp2_with fail
              refine hK.out _ _ ?_ (fun hHeld => ?_)
              · (first | exact hHeld | go_keep)
              clear hK K
              try simp only [Act.put, List.setIfInBounds_toArray, List.set_cons_zero, List.set_cons_succ]
              refine takeH 15 30 (v := ?_) rfl rfl (by kernel_rfl) (by kernel_rfl) (by kernel_rfl) (fun _ _ _ h => h) (by rfl) ?_ (by assumption) ?_
              rotate_left
              · (intro w hSw; go_simp; first | done | with_reducible rfl)
              simp only [List.setIfInBounds_toArray, List.set_cons_zero, List.set_cons_succ]
              refine takeH 16 31 (v := ?_) rfl rfl (by kernel_rfl) (by kernel_rfl) (by kernel_rfl) (fun _ _ _ h => h) (by rfl) ?_ (by assumption) ?_
              rotate_left
              · (intro w hSw; go_simp; first | done | with_reducible rfl)
              simp only [List.setIfInBounds_toArray, List.set_cons_zero, List.set_cons_succ]
              refine takeH 17 32 (v := ?_) rfl rfl (by kernel_rfl) (by kernel_rfl) (by kernel_rfl) (fun _ _ _ h => h) (by rfl) ?_ (by assumption) ?_
              rotate_left
              · (intro w hSw; go_simp; first | done | with_reducible rfl)
              simp only [List.setIfInBounds_toArray, List.set_cons_zero, List.set_cons_succ]
              refine takeH 18 3 (v := ?_) rfl rfl (by kernel_rfl) (by kernel_rfl) (by kernel_rfl) (fun _ _ _ h => h) (by rfl) ?_ (by assumption) ?_
              rotate_left
              · (intro w hSw; go_simp; first | done | with_reducible rfl)
              simp only [List.setIfInBounds_toArray, List.set_cons_zero, List.set_cons_succ]
              refine wpAnyH_done (by kernel_rfl) ?_ _
              clear hHeld
              go_wp2
              go_roundw
              case rel => exact ⟨k + 1, by omega, by go_num, by rw [hst.out, ba_append, ba_append, List.append_assoc], Lib.hid (((hB.out.alloc hwr _).alloc (by simp; omega) _).drew)⟩
              case measure => simp [intOf]; omega
            exact AllReadyH.nil
          exact AllReadyH.nil
        exact AllReadyH.nil
      refine AllReadyH.cons (i := 8) rfl (fun K hK => ?_) ?_
      · skip
        go_simp
        refine hK.out _ _ ?_ (fun hHeld => ?_)
        · (first | exact hHeld | go_keep)
        clear hK K
        try simp only [Act.put, List.setIfInBounds_toArray, List.set_cons_zero, List.set_cons_succ]
        refine strongH (S' := fun w' => w'.cell? ⟨b, off + k, none⟩ = some (.int .i64 z) ∧ w'.cell? ⟨wr.heap.size, q2.toNat, none⟩ = some (.string ⟨sp.toArray⟩)) (fun _ h => h.1) ⟨hHeld, ?_⟩ (fun hHeld => ?_)
        · exact sepc _ _ (by simp)
        refine wpAnyH_ready (rs := [5]) (by kernel_rfl) (by simp) ?_
        refine AllReadyH.cons (i := 5) rfl (fun K hK => ?_) ?_
        · skip
          go_simp
          refine (Ha1.out _).mono ?_; rintro e w' ⟨rfl, rfl⟩
          go_wp2_with fail
          refine hK.out _ _ ?_ (fun hHeld => ?_)
          · (first | exact hHeld | go_keep)
          clear hK K
          try simp only [Act.put, List.setIfInBounds_toArray, List.set_cons_zero, List.set_cons_succ]
          refine wpAnyH_ready (rs := [6]) (by kernel_rfl) (by simp) ?_
          refine AllReadyH.cons (i := 6) rfl (fun K hK => ?_) ?_
          · skip
            go_simp
            refine (Hp.out _).mono ?_; rintro e w' ⟨rfl, rfl⟩
            go_wp2_with fail
            refine hK.out _ _ ?_ (fun hHeld => ?_)
            · (first | exact hHeld | go_keep)
            clear hK K
            try simp only [Act.put, List.setIfInBounds_toArray, List.set_cons_zero, List.set_cons_succ]
            refine takeH 7 22 (v := ?_) rfl rfl (by kernel_rfl) (by kernel_rfl) (by kernel_rfl) (fun _ _ _ h => h) (by rfl) ?_ (by assumption) ?_
            rotate_left
            · (intro w hSw; go_simp; first | done | with_reducible rfl)
            simp only [List.setIfInBounds_toArray, List.set_cons_zero, List.set_cons_succ]
            refine wpAnyH_ready (rs := [14]) (by kernel_rfl) (by simp) ?_
            refine AllReadyH.cons (i := 14) rfl (fun K hK => ?_) ?_
            · skip
              go_simp
              refine (Ha2.out _).mono ?_; rintro e w' ⟨rfl, rfl⟩
              go_wp2_with fail
              refine hK.out _ _ ?_ (fun hHeld => ?_)
              · (first | exact hHeld | go_keep)
              clear hK K
              try simp only [Act.put, List.setIfInBounds_toArray, List.set_cons_zero, List.set_cons_succ]
              refine takeH 15 30 (v := ?_) rfl rfl (by kernel_rfl) (by kernel_rfl) (by kernel_rfl) (fun _ _ _ h => h) (by rfl) ?_ (by assumption) ?_
              rotate_left
              · (intro w hSw; go_simp; first | done | with_reducible rfl)
              simp only [List.setIfInBounds_toArray, List.set_cons_zero, List.set_cons_succ]
              refine takeH 16 31 (v := ?_) rfl rfl (by kernel_rfl) (by kernel_rfl) (by kernel_rfl) (fun _ _ _ h => h) (by rfl) ?_ (by assumption) ?_
              rotate_left
              · (intro w hSw; go_simp; first | done | with_reducible rfl)
              simp only [List.setIfInBounds_toArray, List.set_cons_zero, List.set_cons_succ]
              refine takeH 17 32 (v := ?_) rfl rfl (by kernel_rfl) (by kernel_rfl) (by kernel_rfl) (fun _ _ _ h => h) (by rfl) ?_ (by assumption) ?_
              rotate_left
              · (intro w hSw; go_simp; first | done | with_reducible rfl)
              simp only [List.setIfInBounds_toArray, List.set_cons_zero, List.set_cons_succ]
              refine takeH 18 3 (v := ?_) rfl rfl (by kernel_rfl) (by kernel_rfl) (by kernel_rfl) (fun _ _ _ h => h) (by rfl) ?_ (by assumption) ?_
              rotate_left
              · (intro w hSw; go_simp; first | done | with_reducible rfl)
              simp only [List.setIfInBounds_toArray, List.set_cons_zero, List.set_cons_succ]
              refine wpAnyH_done (by kernel_rfl) ?_ _
              clear hHeld
              go_wp2
              go_roundw
              case rel => exact ⟨k + 1, by omega, by go_num, by rw [hst.out, ba_append, ba_append, List.append_assoc], Lib.hid (((hB.out.alloc hwr _).alloc (by simp; omega) _).drew)⟩
              case measure => simp [intOf]; omega
            exact AllReadyH.nil
          exact AllReadyH.nil
        exact AllReadyH.nil
      exact AllReadyH.nil
    · obtain rfl : k = N := by omega
      by_cases hlen : len < 24
      · obtain rfl : k = len := HN.out.2.2.1 hlen
        clear hlt
        go_wp2
        go_ret
        exact ⟨rfl, hB.out⟩
      · have hk24 : k = 24 := HN.out.2.2.2 (by omega)
        subst hk24
        clear hlt
        go_wp2
        all_goals (go_ret; exact ⟨rfl, hB.out⟩)

def cleanText (zs : List Int) (len : Nat) : Bs := textTo cleanOf zs (min len 24)

theorem cleanText_len (zs : List Int) (len : Nat) : (cleanText zs len).length ≤ 456 := by
  unfold cleanText
  have := textTo_len cleanOf 19 cleanOf_len zs (min len 24)
  omega

theorem clean_nil (a : Option Addr) (cap : Nat) (_hc : cap ≤ 9223372036854775807) (w : World) (zs : List Int) :
    Calls Tryd.prog 12 #[.slice a 0 cap] w fun e w' => e = .returned (.string ⟨(cleanText zs 0).toArray⟩) ∧ w = w' := by
  go_enter Tryd.func12, Tryd.ntmps12
  go_wp2
  go_loop [3, 4] (fun v i => v = .string ⟨#[]⟩ ∧ i = .int .i64 0) (fun _ _ => 0)
  case atStart => exact ⟨rfl, rfl⟩
  case round =>
    obtain ⟨rfl, rfl⟩ := hrel
    go_wp2
    go_ret
    exact ⟨rfl, rfl⟩

theorem clean_any (v : Value) (zs : List Int) (len : Nat) (w : World) (h : IntsAt w v zs len) :
    Calls Tryd.prog 12 #[v] w fun e w' => e = .returned (.string ⟨(cleanText zs len).toArray⟩) ∧ Below w.heap.size w w' := by
  rcases h with ⟨a, cap, rfl, rfl, hcap⟩ | ⟨b, off, cap, rfl, hlt, h1, h2, hc, hr⟩
  · refine (clean_nil a cap hcap w zs).mono ?_
    rintro e w' ⟨rfl, rfl⟩
    exact ⟨rfl, Below.refl _ _⟩
  · exact clean_some b off cap zs len w hlt h1 h2 hc hr

end Go.Proofs.YtndlecddgihihaaDoor
