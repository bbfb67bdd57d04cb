/- lattice.lead. -/
import Derived.Test.YtlmbebbdamgfpaaQULLn
import Derived.Test.YtlmbebbdamgfpaaQULBezP
set_option linter.unusedVariables false
set_option linter.unusedSimpArgs false
set_option linter.unusedVariables false
set_option linter.unusedSimpArgs false
namespace Go.Proofs.Ytlmbebbdamgfpaa
open Go.RowKit

theorem BlkC.some_ {w : World} {g : Nat} {t : TypeId} {cs : List Value} (h : BlkC w g t cs) (o : Nat) (ho : o < cs.length) : ∃ u, w.cell? ⟨g, o, none⟩ = some u := ⟨cs[o], (h.cell o).trans (List.getElem?_eq_getElem ho)⟩
/-- entry of a matrix -/
def ent (M : List (List Int)) (i j : Nat) : Int := vec (M[i]?.getD []) j
theorem ent_at {M : List (List Int)} {i j : Nat} (hi : i < M.length) (hj : j < M[i].length) : ent M i j = M[i][j] := by simp [ent, hi, vec, hj]

/-- what lead answers -/
def LeadPost (w0 : World) (B n : Nat) (l : List Ln) (M : List (List Int)) (place col : Nat) (e : Ending) (w' : World) : Prop :=
 Only (fun b => b = B) w0 w' ∧ ((e = .returned (.bool false) ∧ (∀ q, place ≤ q → q < l.length → ent M q col = 0) ∧ LnAt w' B l n M) ∨
  ∃ i, ∃ hi : i < l.length, ∃ hp : place < l.length, ∃ hi' : i < M.length, ∃ hp' : place < M.length, place ≤ i ∧ ent M i col ≠ 0 ∧ e = .returned (.bool true) ∧ LnAt w' B (swapL l place i hp hi) n (swapL M place i hp' hi'))

set_option maxRecDepth 100000 in
set_option maxHeartbeats 8000000 in
theorem lead_any (w0 : World) (B cB n place col : Nat) (l : List Ln) (M : List (List Int)) (h : LnAt w0 B l n M) (hl : l.length ≤ 1000) (hcB : l.length ≤ cB) (hcB2 : cB ≤ 9223372036854775807) (hplace : place ≤ l.length) (hcol : col < n) (hn : n ≤ 1000) (hS : ∀ r ∈ M, ∀ x ∈ r, Sz 4000 x) :
 Calls Try.prog 73 #[.slice (some ⟨B, 0, none⟩) l.length cB, .int .i64 place, .int .i64 col] w0 (LeadPost w0 B n l M place col) := by
 have K := hZ h
 have HB := hZ (Below.refl w0.heap.size w0)
 have SZ := hZ hS
 have Hlen := hZ h.len
 have j1 : (0 : Int) ≤ (col : Int) := by omega
 have j2 : (col : Int) < (n : Int) := by omega
 clear h hS
 go_enter Try.func73, Try.ntmps73
 go_wp2_with fail
 go_loopw [7] (fun i wr => ∃ j : Nat, place ≤ j ∧ j ≤ l.length ∧ i = .int .i64 j ∧ Hid (∀ q, place ≤ q → q < j → ent M q col = 0) ∧ Hid (LnAt wr B l n M) ∧ Hid (Below w0.heap.size w0 wr)) (fun i _ => l.length - (intOf i).toNat)
 case atStart => exact ⟨place, by omega, hplace, rfl, hZ (fun q h1 h2 => by omega), K, HB⟩
 case round =>
  clear K HB
  obtain ⟨j, hpj, hj, rfl, HZ, K, HB⟩ := hrel
  obtain ⟨w1, rfl⟩ : ∃ w' : World, w' = wr := ⟨_, rfl⟩
  by_cases hlt : j < l.length
  ·skip
   have i1 : (0 : Int) ≤ (j : Int) := by omega
   have i2 : (j : Int) < (l.length : Int) := by omega
   have i3 : (0 : Int) ≤ (place : Int) := by omega
   have i4 : (place : Int) < (l.length : Int) := by omega
   have hjm : j < M.length := by have := Hlen.o; omega
   have hpl : place < l.length := by omega
   obtain ⟨l0, l1⟩ := K.o.get j hlt
   obtain ⟨hrow, hrl⟩ := K.o.row j hlt
   obtain ⟨s_x, a_x, n_x, c_x, d0x, d1x, h_x⟩ := hrow.get col (by omega)
   have Vx := hZ h_x
   have He : Hid (ent M j col = (M[j]'hjm)[col]'(by omega)) := hZ (ent_at hjm (by omega))
   have Sx : Hid (Sz 4000 ((M[j]'hjm)[col]'(by omega))) := hZ (SZ.o _ (List.getElem_mem _) _ (List.getElem_mem _))
   generalize (M[j]'hjm)[col]'(by omega) = x at *
   clear h_x hrow hrl
   obtain ⟨g, hg⟩ : ∃ g, l[j].1 = g := ⟨_, rfl⟩
   obtain ⟨cg, hcg⟩ : ∃ c, l[j].2.1 = c := ⟨_, rfl⟩
   obtain ⟨ig, hig⟩ : ∃ c, l[j].2.2 = c := ⟨_, rfl⟩
   have Hg := hZ (And.intro hg (And.intro hcg hig))
   rw [hg, hcg] at l0
   rw [hig] at l1
   rw [hg] at d0x d1x
   clear hg hcg hig
   go_wp2_with fail
   clear d0x d1x l0 l1
   by_cases hx : x = 0
   ·skip
    refine (sign_b (w := w1) Vx.o Sx.o (by omega)).mono ?_
    rintro e w2 ⟨he, hB⟩
    rw [show cmp3 x 0 = 0 by rw [hx]; exact cmp3_eq 0] at he
    subst he
    replace K := hZ (K.o.blw hB)
    replace Vx := hZ (Vx.o.blw hB)
    replace HB := bT HB hB
    clear hB
    go_wp2_with fail
    go_roundw
    case rel => exact ⟨j + 1, by omega, by omega, by go_num, hZ (fun q h1 h2 => if h3 : q < j then HZ.o q h1 h3 else by rw [show q = j by omega, He.o, hx]), K, HB⟩
    case measure => simp [intOf]; omega
   ·skip
    refine (sign_b (w := w1) Vx.o Sx.o (by omega)).mono ?_
    rintro e w2 ⟨he, hB⟩
    obtain ⟨sgx, hs9, q0x, q1x⟩ := cmp3_nz (x := x) hx
    rw [hs9] at he
    subst he
    clear hs9
    replace K := hZ (K.o.blw hB)
    replace Vx := hZ (Vx.o.blw hB)
    replace HB := bT HB hB
    clear hB
    go_wp2_with fail
    obtain ⟨w3, hwd⟩ : ∃ w', w2.drew = w' := ⟨_, rfl⟩
    have hB := dB hwd
    replace K := hZ (K.o.blw hB)
    replace Vx := hZ (Vx.o.blw hB)
    replace HB := bT HB hB
    clear hB
    have HBr : Hid (Only (fun b => False) w3 w3) := hZ (Only.refl _ _)
    refine startL [13, 15] (fun w' => Only (fun b => False) w3 w') (by kernel_rfl) (by rw [hwd]; exact Only.refl _ _) (fun hHeld => ?_)
    rw [hwd] at hHeld ⊢
    clear hwd
    obtain ⟨l0, l1⟩ := K.o.get j hlt
    rw [Hg.o.1, Hg.o.2.1] at l0
    rw [Hg.o.2.2] at l1
    obtain ⟨m0, m1⟩ := K.o.get place hpl
    obtain ⟨g', hg⟩ : ∃ g, l[place].1 = g := ⟨_, rfl⟩
    obtain ⟨cg', hcg⟩ : ∃ c, l[place].2.1 = c := ⟨_, rfl⟩
    obtain ⟨ig', hig⟩ : ∃ c, l[place].2.2 = c := ⟨_, rfl⟩
    have Hg' := hZ (And.intro hg (And.intro hcg hig))
    rw [hg, hcg] at m0
    rw [hig] at m1
    clear hg hcg hig
    refine pP 0 25 (v := ?_) rfl rfl ?_ ?_
    rotate_left
    ·(intro w; go_simp; first | done | with_reducible rfl)
    simp only [sX1, sX2, sX3]
    refine pP 1 26 (v := ?_) rfl rfl ?_ ?_
    rotate_left
    ·(intro w; go_simp; first | done | with_reducible rfl)
    simp only [sX1, sX2, sX3]
    refine pP 2 27 (v := ?_) rfl rfl ?_ ?_
    rotate_left
    ·(intro w; go_simp; first | done | with_reducible rfl)
    simp only [sX1, sX2, sX3]
    refine pP 3 28 (v := ?_) rfl rfl ?_ ?_
    rotate_left
    ·(intro w; go_simp; first | done | with_reducible rfl)
    simp only [sX1, sX2, sX3]
    refine pP 4 29 (v := ?_) rfl rfl ?_ ?_
    rotate_left
    ·(intro w; go_simp; first | done | with_reducible rfl)
    simp only [sX1, sX2, sX3]
    refine pP 5 30 (v := ?_) rfl rfl ?_ ?_
    rotate_left
    ·(intro w; go_simp; first | done | with_reducible rfl)
    simp only [sX1, sX2, sX3]
    refine pP 6 31 (v := ?_) rfl rfl ?_ ?_
    rotate_left
    ·(intro w; go_simp; first | done | with_reducible rfl)
    simp only [sX1, sX2, sX3]
    refine tP 7 32 (v := ?_) rfl rfl ?_ ?_
    rotate_left
    ·(intro w hSw; have x0 := (hSw.cell (p := ⟨B, j * 2, none⟩) (fun h => h) K.o.lt).trans l0; have x1 := (hSw.cell (p := ⟨B, j * 2 + 1, none⟩) (fun h => h) K.o.lt).trans l1; go_simp; first | done | with_reducible rfl)
    simp only [sX1, sX2, sX3]
    refine pP 8 33 (v := ?_) rfl rfl ?_ ?_
    rotate_left
    ·(intro w; go_simp; first | done | with_reducible rfl)
    simp only [sX1, sX2, sX3]
    refine pP 9 34 (v := ?_) rfl rfl ?_ ?_
    rotate_left
    ·(intro w; go_simp; first | done | with_reducible rfl)
    simp only [sX1, sX2, sX3]
    refine pP 10 35 (v := ?_) rfl rfl ?_ ?_
    rotate_left
    ·(intro w; go_simp; first | done | with_reducible rfl)
    simp only [sX1, sX2, sX3]
    refine tP 11 36 (v := ?_) rfl rfl ?_ ?_
    rotate_left
    ·(intro w hSw; have x0 := (hSw.cell (p := ⟨B, place * 2, none⟩) (fun h => h) K.o.lt).trans m0; have x1 := (hSw.cell (p := ⟨B, place * 2 + 1, none⟩) (fun h => h) K.o.lt).trans m1; go_simp; first | done | with_reducible rfl)
    simp only [sX1, sX2, sX3]
    refine pP 12 37 (v := ?_) rfl rfl ?_ ?_
    rotate_left
    ·(intro w; go_simp; first | done | with_reducible rfl)
    simp only [sX1, sX2, sX3]
    have f0 := K.o.frozen (place * 2)
    have f1 := K.o.frozen (place * 2 + 1)
    obtain ⟨wA, hwA⟩ : ∃ w', (w3.setCell ⟨B, place * 2, none⟩ (.slice (some ⟨g, 0, none⟩) n cg)).setCell ⟨B, place * 2 + 1, none⟩ (.int .i64 ig) = w' := ⟨_, rfl⟩
    have hbA : BlkC wA B 103 (((l.flatMap (lnC n)).set (place * 2) (.slice (some ⟨g, 0, none⟩) n cg)).set (place * 2 + 1) (.int .i64 ig)) := by rw [← hwA]; exact (K.o.blk.set (place * 2) (.slice (some ⟨g, 0, none⟩) n cg)).set (place * 2 + 1) (.int .i64 ig)
    obtain ⟨u0, hu0⟩ := hbA.some_ (j * 2) (by rw [List.length_set, List.length_set, lnC_len]; omega)
    obtain ⟨u1, hu1⟩ := hbA.some_ (j * 2 + 1) (by rw [List.length_set, List.length_set, lnC_len]; omega)
    have f2 := hbA.frozen (j * 2)
    have f3 := hbA.frozen (j * 2 + 1)
    obtain ⟨wB, hwB⟩ : ∃ w', (wA.setCell ⟨B, j * 2, none⟩ (.slice (some ⟨g', 0, none⟩) n cg')).setCell ⟨B, j * 2 + 1, none⟩ (.int .i64 ig') = w' := ⟨_, rfl⟩
    have hsw := K.o.swap place j hpl hlt
    rw [Hg.o.1, Hg.o.2.1, Hg.o.2.2, Hg'.o.1, Hg'.o.2.1, Hg'.o.2.2, hwA, hwB] at hsw
    have K2 := hZ hsw
    clear hsw hbA
    have HO : Hid (Only (fun b => b = B) w0 wB) := hZ (by rw [← hwB, ← hwA]; exact ((((Only.of_below (S := fun b => b = B) HB.o).set (p := ⟨B, place * 2, none⟩) rfl _).set (p := ⟨B, place * 2 + 1, none⟩) rfl _).set (p := ⟨B, j * 2, none⟩) rfl _).set (p := ⟨B, j * 2 + 1, none⟩) rfl _)
    refine lateL 13 (by kernel_rfl) (by decide) rfl (fun K hK => ?_)
    go_simp
    try rw [hwA]
    refine hK.out _ _ ?_
    clear hK K
    try simp only [Act.put, sX1, sX2, sX3]
    clear hwA f0 f1 m0 m1 l0 l1
    refine pP 14 38 (v := ?_) rfl rfl ?_ ?_
    rotate_left
    ·(intro w; go_simp; first | done | with_reducible rfl)
    simp only [sX1, sX2, sX3]
    refine lateL 15 (by kernel_rfl) (by decide) rfl (fun K hK => ?_)
    go_simp
    try rw [hwB]
    refine hK.out _ _ ?_
    clear hK K
    try simp only [Act.put, sX1, sX2, sX3]
    clear hwB hu0 hu1 f2 f3
    refine doneL (by kernel_rfl) ?_ _
    clear hHeld
    go_wp2_with fail
    go_ret
    exact ⟨HO.o, .inr ⟨j, hlt, hpl, by omega, by have := Hlen.o; omega, hpj, by rw [He.o]; exact hx, rfl, K2.o⟩⟩
  ·skip
   go_wp2_with fail
   go_ret
   exact ⟨Only.of_below HB.o, .inl ⟨rfl, fun q h1 h2 => HZ.o q h1 (by omega), K.o⟩⟩
end Go.Proofs.Ytlmbebbdamgfpaa
