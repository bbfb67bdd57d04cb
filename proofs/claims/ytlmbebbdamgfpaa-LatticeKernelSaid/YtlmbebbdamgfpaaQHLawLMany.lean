/- worldmintlaw06.LatticeMany. -/
import Derived.Test.YtlmbebbdamgfpaaQHLInP
import Derived.Test.YtlmbebbdamgfpaaQHLIn
import Derived.Test.YtlmbebbdamgfpaaQHWDivF
import Derived.Test.YtlmbebbdamgfpaaProg
import Derived.Test.YtlmbebbdamgfpaaQHGMem
import Derived.WalkKit
import Derived.WalkSpells
import Derived.WalkLawsBesides
set_option linter.unusedVariables false
set_option linter.unusedSimpArgs false
set_option maxHeartbeats 8000000
set_option maxRecDepth 100000
namespace Go.Proofs.Ytlmbebbdamgfpaa

theorem qKl : IsN [[1, 1], [0, 2]] 2 := by
 intro i hi h
 match i, hi with
 | 0, _ => exact ⟨rfl, by (simp only [List.getElem_cons_zero, List.getElem_cons_succ]; decide), by (simp only [List.getElem_cons_zero, List.getElem_cons_succ]; decide), fun k hk => by omega, fun k hk => by omega⟩
 | 1, _ =>
  refine ⟨rfl, by (simp only [List.getElem_cons_zero, List.getElem_cons_succ]; decide), by (simp only [List.getElem_cons_zero, List.getElem_cons_succ]; decide), fun k hk => ?_, fun k hk => ?_⟩
  ·obtain rfl : k = 0 := by omega
   (simp only [List.getElem_cons_zero, List.getElem_cons_succ]; decide)
  ·obtain rfl : k = 0 := by omega
   (simp only [List.getElem_cons_zero, List.getElem_cons_succ]; decide)
theorem qK2 : IsN [[1, 1, -1], [0, 3, -2]] 3 := by
 intro i hi h
 match i, hi with
 | 0, _ => exact ⟨rfl, by (simp only [List.getElem_cons_zero, List.getElem_cons_succ]; decide), by (simp only [List.getElem_cons_zero, List.getElem_cons_succ]; decide), fun k hk => by omega, fun k hk => by omega⟩
 | 1, _ =>
  refine ⟨rfl, by (simp only [List.getElem_cons_zero, List.getElem_cons_succ]; decide), by (simp only [List.getElem_cons_zero, List.getElem_cons_succ]; decide), fun k hk => ?_, fun k hk => ?_⟩
  ·obtain rfl : k = 0 := by omega
   (simp only [List.getElem_cons_zero, List.getElem_cons_succ]; decide)
  ·obtain rfl : k = 0 := by omega
   (simp only [List.getElem_cons_zero, List.getElem_cons_succ]; decide)
theorem qK8 : qAw ([[2, 4], [3, 5]].map vec) 0 ([[1, 1], [0, 2]].map vec) := by
 have a1 : ∀ r ∈ ([[1, 1], [0, 2]] : List (List Int)).map vec, qAa ([[2, 4], [3, 5]].map vec) r := by
  intro r hr; simp only [List.map_cons, List.map_nil, List.mem_cons, List.not_mem_nil, or_false] at hr; rcases hr with rfl | rfl
  ·exact ⟨[-1, 1], fun j => match j with
    | 0 => rfl
    | 1 => rfl
    | j + 2 => by simp [comb, vec]⟩
  ·exact ⟨[3, -2], fun j => match j with
    | 0 => rfl
    | 1 => rfl
    | j + 2 => by simp [comb, vec]⟩
 have a2 : ∀ r ∈ ([[2, 4], [3, 5]] : List (List Int)).map vec, qAa ([[1, 1], [0, 2]].map vec) r := by
  intro r hr; simp only [List.map_cons, List.map_nil, List.mem_cons, List.not_mem_nil, or_false] at hr; rcases hr with rfl | rfl
  ·exact ⟨[2, 1], fun j => match j with
    | 0 => rfl
    | 1 => rfl
    | j + 2 => by simp [comb, vec]⟩
  ·exact ⟨[3, 1], fun j => match j with
    | 0 => rfl
    | 1 => rfl
    | j + 2 => by simp [comb, vec]⟩
 exact ⟨qKl.nrm, fun v => ⟨fun h => ⟨v, h.trans a1, fun j hj => by omega, fun j => by rw [Nat.zero_add]⟩, fun ⟨u, h1, _, h3⟩ => (h1.congr (fun j => by rw [h3, Nat.zero_add])).trans a2⟩⟩
theorem qLW : qBu [[1], [2], [3]] ([[1, 1, -1], [0, 3, -2]].map vec) := by
 refine ⟨qK2.nrm, fun v => ⟨?_, ?_⟩⟩
 ·rintro h
  obtain ⟨q, hq⟩ := h; have e : ∃ x y : Int, ∀ j, v j = x * vec [1, 1, -1] j + y * vec [0, 3, -2] j := by
   match q with
   | [] => exact ⟨0, 0, fun j => by rw [hq]; simp [comb]⟩
   | [x] => exact ⟨x, 0, fun j => by rw [hq]; simp [comb]⟩
   | x :: y :: q => exact ⟨x, y, fun j => by rw [hq]; cases q <;> simp [comb]⟩
  obtain ⟨x, y, hv⟩ := e; refine ⟨fun j hj => ?_, fun j => ?_⟩
  ·rw [hv, qAr (by simpa using hj), qAr (by simpa using hj)]; simp
  ·match j with
   | 0 =>
    show v 0 * 1 + (v 1 * 2 + (v 2 * 3 + 0)) = 0
    rw [hv 0, hv 1, hv 2]
    show (x * 1 + y * 0) * 1 + ((x * 1 + y * 3) * 2 + ((x * -1 + y * -2) * 3 + 0)) = 0
    omega
   | j + 1 => simp [qA8, vec]
 ·rintro ⟨h1, h2⟩
  have h0 : v 0 * 1 + (v 1 * 2 + (v 2 * 3 + 0)) = 0 := h2 0; refine ⟨[v 0, v 1 + v 2], fun j => ?_⟩
  match j with
  | 0 =>
   show v 0 = v 0 * 1 + ((v 1 + v 2) * 0 + 0)
   omega
  | 1 =>
   show v 1 = v 0 * 1 + ((v 1 + v 2) * 3 + 0)
   omega
  | 2 =>
   show v 2 = v 0 * -1 + ((v 1 + v 2) * -2 + 0)
   omega
  | j + 3 =>
   rw [h1 (j + 3) (by simp)]; simp [comb, vec]
theorem qL0 : ¬ InB [[1, 1], [0, 2]] [3, 4] := by
 rintro ⟨-, -, -, q, hq⟩; have e : ∃ x y : Int, ∀ j, vec [3, 4] j = x * vec [1, 1] j + y * vec [0, 2] j := by
  match q with
  | [] => exact ⟨0, 0, fun j => by rw [hq]; simp [comb]⟩
  | [x] => exact ⟨x, 0, fun j => by rw [hq]; simp [comb]⟩
  | x :: y :: q => exact ⟨x, y, fun j => by rw [hq]; cases q <;> simp [comb]⟩
 obtain ⟨x, y, hv⟩ := e; have e0 : (3 : Int) = x * 1 + y * 0 := hv 0; have e1 : (4 : Int) = x * 1 + y * 2 := hv 1; omega
theorem qK6 : InB [[1, 1], [0, 2]] [3, 5] :=
 ⟨by decide, by decide, qKl, ⟨[3, 1], fun j => match j with
  | 0 => rfl
  | 1 => rfl
  | j + 2 => by simp [comb, vec]⟩⟩
theorem qBX {n : Nat} : ∀ {A B : List (List Int)}, (∀ r ∈ A, r.length = n) -> (∀ r ∈ B, r.length = n) -> A.map vec = B.map vec -> A = B
 | [], [], _, _, _ => rfl
 | [], b :: B, _, _, h => by simp at h
 | a :: A, [], _, _, h => by simp at h
 | a :: A, b :: B, h1, h2, h => by
  simp only [List.map_cons, List.cons.injEq] at h; rw [qKA (l := a) (l' := b) (by rw [h1 a (by simp), h2 b (by simp)]) (fun j => by rw [h.1]), qBX (fun r hr => h1 r (by simp [hr])) (fun r hr => h2 r (by simp [hr])) h.2]
open Go.RowKit
theorem qAA.blw {w w' : World} {v : Value} {m : List (List Int)} (h : qAA w v m) (hb : Below w.heap.size w w') : qAA w' v m := h.below hb
instance {w w' : World} {v : Value} {m : List (List Int)} : Mv w w' (qAA w v m) (qAA w' v m) := ⟨fun hb h => qAA.blw h hb⟩
theorem qL3 : ∀ r ∈ ([[1, 1], [0, 2]] : List (List Int)), ∀ x ∈ r, qEH x := by unfold qEH; decide
theorem qL2 : ∀ r ∈ ([[1, 1, -1], [0, 3, -2]] : List (List Int)), ∀ x ∈ r, qEH x := by unfold qEH; decide
theorem qA5.fit {H : List (List Int)} {e : Ending} {w' : World} (h : qA5 H e w') (hf : ∀ r ∈ H, ∀ x ∈ r, qEH x) : ∃ u, e = .returned (.tuple #[u, .int .i64 0]) /\ qAA w' u H := by
 rcases h with ⟨-, r, hr, x, hx, hn⟩ | ⟨u, h1, h2, -⟩
 ·exact absurd (hf r hr x hx) hn
 ·exact ⟨u, h1, h2⟩
theorem qAo.lit {w : World} {g n : Nat} {l : List Int} (h : qAE w g 3 (l.map zv)) (hl : l.length = n) (hn : n <= 1000) : qAo w (.slice (some ⟨g, 0, none⟩) n n) l := by
 subst hl; exact qBi h (Nat.le_refl _) (by omega)
theorem qDh (w0 : World) : Calls Try.prog 17 #[] w0 fun e w' => e = .returned (.bool true) /\ Below w0.heap.size w0 w' := by
 have HB := hZ (Below.refl w0.heap.size w0); obtain ⟨w1, hw_1⟩ := eX (w0.alloc (.cells #[.int .i64 2, .int .i64 4] 3)); have hB : Below w0.heap.size w0 w1 := by rw [<- hw_1]; exact (Below.refl _ _).alloc (Nat.le_refl _) _
 obtain ⟨b_1, hb_1⟩ := eX w0.heap.size; have O_1' : Hid (qAE w1 b_1 3 (([2, 4] : List Int).map zv)) := hZ (by rw [<- hw_1, <- hb_1]; exact qAE.new _ _ _); replace HB := bT HB hB; clear hB; have O_1 := O_1'; clear O_1'; obtain ⟨w2, hw_2⟩ := eX (w1.alloc (.cells #[.int .i64 3, .int .i64 5] 3)); have hB : Below w1.heap.size w1 w2 := by rw [<- hw_2]; exact (Below.refl _ _).alloc (Nat.le_refl _) _
 obtain ⟨b_2, hb_2⟩ := eX w1.heap.size; have O_2' : Hid (qAE w2 b_2 3 (([3, 5] : List Int).map zv)) := hZ (by rw [<- hw_2, <- hb_2]; exact qAE.new _ _ _); replace O_1 := O_1.b hB; replace HB := bT HB hB; clear hB; have O_2 := O_2'; clear O_2'; obtain ⟨w3, hw_3⟩ := eX (w2.alloc (.cells #[.slice (some ⟨b_1, 0, none⟩) 2 2, .slice (some ⟨b_2, 0, none⟩) 2 2] 22)); have hB : Below w2.heap.size w2 w3 := by rw [<- hw_3]; exact (Below.refl _ _).alloc (Nat.le_refl _) _
 obtain ⟨b_3, hb_3⟩ := eX w2.heap.size; have O_3' : qAE w3 b_3 22 (qGH [(b_1, 2), (b_2, 2)] 0) := by rw [<- hw_3, <- hb_3]; exact qAE.new _ _ _
 replace O_1 := O_1.b hB; replace O_2 := O_2.b hB; replace HB := bT HB hB; clear hB; have M_3 : Hid (qAA w3 (.slice (some ⟨b_3, 0, none⟩) 2 2) [[2, 4], [3, 5]]) := hZ ((((qAI.nil _).snoc O_1.o).snoc O_2.o).mat O_3' (by simp) (by simp) (by simp)); clear O_3'; clear O_1; clear O_2
 go_enter Try.func17, Try.ntmps17
 go_wp2_with fail
 clear hw_1 hb_1 hw_2 hb_2 hw_3 hb_3; refine (qEs w3 _ _ M_3.o).mono ?_; rintro e w4 ⟨hB, ⟨hz, -⟩ | ⟨-, Hm, h1, h2, -, h3⟩⟩
 ·exact absurd (by decide) hz
 obtain rfl : Hm = [[1, 1], [0, 2]] := qBX (n := 2) h2 (by decide) (h1.uniq qK8); obtain ⟨ua, rfl, hu⟩ := h3.fit qL3; have Mu' := hZ hu; clear h1 h2 h3 hu; clear M_3; replace HB := bT HB hB; clear hB; have Mu := Mu'; clear Mu'; obtain ⟨w5, hw_4⟩ := eX (w4.alloc (.cells #[.int .i64 1] 3)); have hB : Below w4.heap.size w4 w5 := by rw [<- hw_4]; exact (Below.refl _ _).alloc (Nat.le_refl _) _
 obtain ⟨b_4, hb_4⟩ := eX w4.heap.size; have O_4' : Hid (qAE w5 b_4 3 (([1] : List Int).map zv)) := hZ (by rw [<- hw_4, <- hb_4]; exact qAE.new _ _ _); replace Mu := Mu.b hB; replace HB := bT HB hB; clear hB; have O_4 := O_4'; clear O_4'; obtain ⟨w6, hw_5⟩ := eX (w5.alloc (.cells #[.int .i64 2] 3)); have hB : Below w5.heap.size w5 w6 := by rw [<- hw_5]; exact (Below.refl _ _).alloc (Nat.le_refl _) _
 obtain ⟨b_5, hb_5⟩ := eX w5.heap.size; have O_5' : Hid (qAE w6 b_5 3 (([2] : List Int).map zv)) := hZ (by rw [<- hw_5, <- hb_5]; exact qAE.new _ _ _); replace Mu := Mu.b hB; replace O_4 := O_4.b hB; replace HB := bT HB hB; clear hB; have O_5 := O_5'; clear O_5'; obtain ⟨w7, hw_6⟩ := eX (w6.alloc (.cells #[.int .i64 3] 3)); have hB : Below w6.heap.size w6 w7 := by rw [<- hw_6]; exact (Below.refl _ _).alloc (Nat.le_refl _) _
 obtain ⟨b_6, hb_6⟩ := eX w6.heap.size; have O_6' : Hid (qAE w7 b_6 3 (([3] : List Int).map zv)) := hZ (by rw [<- hw_6, <- hb_6]; exact qAE.new _ _ _); replace Mu := Mu.b hB; replace O_4 := O_4.b hB; replace O_5 := O_5.b hB; replace HB := bT HB hB; clear hB; have O_6 := O_6'; clear O_6'; obtain ⟨w8, hw_7⟩ := eX (w7.alloc (.cells #[.slice (some ⟨b_4, 0, none⟩) 1 1, .slice (some ⟨b_5, 0, none⟩) 1 1, .slice (some ⟨b_6, 0, none⟩) 1 1] 22)); have hB : Below w7.heap.size w7 w8 := by rw [<- hw_7]; exact (Below.refl _ _).alloc (Nat.le_refl _) _
 obtain ⟨b_7, hb_7⟩ := eX w7.heap.size; have O_7' : qAE w8 b_7 22 (qGH [(b_4, 1), (b_5, 1), (b_6, 1)] 0) := by rw [<- hw_7, <- hb_7]; exact qAE.new _ _ _
 replace Mu := Mu.b hB; replace O_4 := O_4.b hB; replace O_5 := O_5.b hB; replace O_6 := O_6.b hB; replace HB := bT HB hB; clear hB; have M_7 : Hid (qAA w8 (.slice (some ⟨b_7, 0, none⟩) 3 3) [[1], [2], [3]]) := hZ (((((qAI.nil _).snoc O_4.o).snoc O_5.o).snoc O_6.o).mat O_7' (by simp) (by simp) (by simp)); clear O_7'; clear O_4; clear O_5; clear O_6
 go_wp2_with fail
 clear hw_4 hb_4 hw_5 hb_5 hw_6 hb_6 hw_7 hb_7; refine (qDD w8 _ _ M_7.o).mono ?_; rintro e w9 ⟨hB, ⟨hz, -⟩ | ⟨-, Hm, h1, h2, -, h3⟩⟩
 ·exact absurd (by decide) hz
 obtain rfl : Hm = [[1, 1, -1], [0, 3, -2]] := qBX (n := 3) h2 (by decide) (h1.uniq qLW); obtain ⟨ub, rfl, hu⟩ := h3.fit qL2; have Mk' := hZ hu; clear h1 h2 h3 hu; clear M_7; replace Mu := Mu.b hB; replace HB := bT HB hB; clear hB; have Mk := Mk'; clear Mk'; obtain ⟨w10, hw_8⟩ := eX (w9.alloc (.cells #[.int .i64 1, .int .i64 1] 3)); have hB : Below w9.heap.size w9 w10 := by rw [<- hw_8]; exact (Below.refl _ _).alloc (Nat.le_refl _) _
 obtain ⟨b_8, hb_8⟩ := eX w9.heap.size; have O_8' : Hid (qAE w10 b_8 3 (([1, 1] : List Int).map zv)) := hZ (by rw [<- hw_8, <- hb_8]; exact qAE.new _ _ _); replace Mu := Mu.b hB; replace Mk := Mk.b hB; replace HB := bT HB hB; clear hB; have O_8 := O_8'; clear O_8'; obtain ⟨w11, hw_9⟩ := eX (w10.alloc (.cells #[.int .i64 0, .int .i64 2] 3)); have hB : Below w10.heap.size w10 w11 := by rw [<- hw_9]; exact (Below.refl _ _).alloc (Nat.le_refl _) _
 obtain ⟨b_9, hb_9⟩ := eX w10.heap.size; have O_9' : Hid (qAE w11 b_9 3 (([0, 2] : List Int).map zv)) := hZ (by rw [<- hw_9, <- hb_9]; exact qAE.new _ _ _); replace Mu := Mu.b hB; replace Mk := Mk.b hB; replace O_8 := O_8.b hB; replace HB := bT HB hB; clear hB; have O_9 := O_9'; clear O_9'; obtain ⟨w12, hw_10⟩ := eX (w11.alloc (.cells #[.slice (some ⟨b_8, 0, none⟩) 2 2, .slice (some ⟨b_9, 0, none⟩) 2 2] 22)); have hB : Below w11.heap.size w11 w12 := by rw [<- hw_10]; exact (Below.refl _ _).alloc (Nat.le_refl _) _
 obtain ⟨b_10, hb_10⟩ := eX w11.heap.size; have O_10' : qAE w12 b_10 22 (qGH [(b_8, 2), (b_9, 2)] 0) := by rw [<- hw_10, <- hb_10]; exact qAE.new _ _ _
 replace Mu := Mu.b hB; replace Mk := Mk.b hB; replace O_8 := O_8.b hB; replace O_9 := O_9.b hB; replace HB := bT HB hB; clear hB; have M_10 : Hid (qAA w12 (.slice (some ⟨b_10, 0, none⟩) 2 2) [[1, 1], [0, 2]]) := hZ ((((qAI.nil _).snoc O_8.o).snoc O_9.o).mat O_10' (by simp) (by simp) (by simp)); clear O_10'; clear O_8; clear O_9
 go_wp2_with fail
 clear hw_8 hb_8 hw_9 hb_9 hw_10 hb_10; refine (qDY _ _ _ _ w12 Mu.o M_10.o).mono ?_; rintro e w13 ⟨rfl, hB⟩; rw [decide_eq_true rfl]; clear M_10; replace Mu := Mu.b hB; replace Mk := Mk.b hB; replace HB := bT HB hB; clear hB; obtain ⟨w14, hw_11⟩ := eX (w13.alloc (.cells #[.int .i64 1, .int .i64 1, .int .i64 (-1)] 3)); have hB : Below w13.heap.size w13 w14 := by rw [<- hw_11]; exact (Below.refl _ _).alloc (Nat.le_refl _) _
 obtain ⟨b_11, hb_11⟩ := eX w13.heap.size; have O_11' : Hid (qAE w14 b_11 3 (([1, 1, -1] : List Int).map zv)) := hZ (by rw [<- hw_11, <- hb_11]; exact qAE.new _ _ _); replace Mu := Mu.b hB; replace Mk := Mk.b hB; replace HB := bT HB hB; clear hB; have O_11 := O_11'; clear O_11'; obtain ⟨w15, hw_12⟩ := eX (w14.alloc (.cells #[.int .i64 0, .int .i64 3, .int .i64 (-2)] 3)); have hB : Below w14.heap.size w14 w15 := by rw [<- hw_12]; exact (Below.refl _ _).alloc (Nat.le_refl _) _
 obtain ⟨b_12, hb_12⟩ := eX w14.heap.size; have O_12' : Hid (qAE w15 b_12 3 (([0, 3, -2] : List Int).map zv)) := hZ (by rw [<- hw_12, <- hb_12]; exact qAE.new _ _ _); replace Mu := Mu.b hB; replace Mk := Mk.b hB; replace O_11 := O_11.b hB; replace HB := bT HB hB; clear hB; have O_12 := O_12'; clear O_12'; obtain ⟨w16, hw_13⟩ := eX (w15.alloc (.cells #[.slice (some ⟨b_11, 0, none⟩) 3 3, .slice (some ⟨b_12, 0, none⟩) 3 3] 22)); have hB : Below w15.heap.size w15 w16 := by rw [<- hw_13]; exact (Below.refl _ _).alloc (Nat.le_refl _) _
 obtain ⟨b_13, hb_13⟩ := eX w15.heap.size; have O_13' : qAE w16 b_13 22 (qGH [(b_11, 3), (b_12, 3)] 0) := by rw [<- hw_13, <- hb_13]; exact qAE.new _ _ _
 replace Mu := Mu.b hB; replace Mk := Mk.b hB; replace O_11 := O_11.b hB; replace O_12 := O_12.b hB; replace HB := bT HB hB; clear hB; have M_13 : Hid (qAA w16 (.slice (some ⟨b_13, 0, none⟩) 2 2) [[1, 1, -1], [0, 3, -2]]) := hZ ((((qAI.nil _).snoc O_11.o).snoc O_12.o).mat O_13' (by simp) (by simp) (by simp)); clear O_13'; clear O_11; clear O_12
 go_wp2_with fail
 clear hw_11 hb_11 hw_12 hb_12 hw_13 hb_13; refine (qDY _ _ _ _ w16 Mk.o M_13.o).mono ?_; rintro e w17 ⟨rfl, hB⟩; rw [decide_eq_true rfl]; clear M_13; replace Mu := Mu.b hB; replace Mk := Mk.b hB; replace HB := bT HB hB; clear hB; obtain ⟨w18, hw_14⟩ := eX (w17.alloc (.cells #[.int .i64 3, .int .i64 4] 3)); have hB : Below w17.heap.size w17 w18 := by rw [<- hw_14]; exact (Below.refl _ _).alloc (Nat.le_refl _) _
 obtain ⟨b_14, hb_14⟩ := eX w17.heap.size; have O_14' : Hid (qAE w18 b_14 3 (([3, 4] : List Int).map zv)) := hZ (by rw [<- hw_14, <- hb_14]; exact qAE.new _ _ _); replace Mu := Mu.b hB; replace Mk := Mk.b hB; replace HB := bT HB hB; clear hB; have O_14 := O_14'; clear O_14'
 go_wp2_with fail
 clear hw_14 hb_14; refine (qKn w18 _ _ _ [3, 4] Mu.o (qAo.lit (n := 2) O_14.o rfl (by omega)) (by decide) (by decide)).mono ?_; rintro e w19 ⟨hB, tb, rfl, htb⟩; obtain rfl : tb = false := by cases tb with | false => rfl | true => exact absurd (htb.1 rfl) qL0
 clear htb; clear O_14; replace Mu := Mu.b hB; replace Mk := Mk.b hB; replace HB := bT HB hB; clear hB; obtain ⟨w20, hw_15⟩ := eX (w19.alloc (.cells #[.int .i64 3, .int .i64 5] 3)); have hB : Below w19.heap.size w19 w20 := by rw [<- hw_15]; exact (Below.refl _ _).alloc (Nat.le_refl _) _
 obtain ⟨b_15, hb_15⟩ := eX w19.heap.size; have O_15' : Hid (qAE w20 b_15 3 (([3, 5] : List Int).map zv)) := hZ (by rw [<- hw_15, <- hb_15]; exact qAE.new _ _ _); replace Mu := Mu.b hB; replace Mk := Mk.b hB; replace HB := bT HB hB; clear hB; have O_15 := O_15'; clear O_15'
 go_wp2_with fail
 clear hw_15 hb_15; refine (qKn w20 _ _ _ [3, 5] Mu.o (qAo.lit (n := 2) O_15.o rfl (by omega)) (by decide) (by decide)).mono ?_; rintro e w21 ⟨hB, tb, rfl, htb⟩; obtain rfl : tb = true := htb.2 qK6; clear htb; clear O_15; replace Mu := Mu.b hB; replace Mk := Mk.b hB; replace HB := bT HB hB; clear hB
 go_wp2_with fail
 go_ret; exact ⟨rfl, HB.o⟩
open Go.RowKit
def qA9 (n m : Int) : Int := if n < 0 then (-(n+1)) % m else n % m
theorem qAW (n m : Int) (hm : 1 <= m) : 0 <= qA9 n m /\ qA9 n m < m := by
 unfold qA9
 split
 ·exact ⟨Int.emod_nonneg _ (by omega), Int.emod_lt_of_pos _ (by omega)⟩
 ·exact ⟨Int.emod_nonneg _ (by omega), Int.emod_lt_of_pos _ (by omega)⟩
theorem qJk (n m : Int) (hn : n < 0) (_hm : 1 <= m) : (-(n + 1)).tmod m = qA9 n m := by
 unfold qA9; rw [if_pos hn, Int.tmod_eq_emod_of_nonneg (by omega)]
theorem qIP {k : IntKind} {a b : Int} (h : a = b) : Ending.returned (.int k a) = .returned (.int k b) := by rw [h]
theorem qBn (n m : Int) (w : World) (hn : -9223372036854775808 <= n) (hn' : n <= 9223372036854775807) (hm : 1 <= m) (hm' : m <= 9223372036854775807) :
 Calls Try.prog 13 #[.int .i64 n, .int .i64 m] w fun e w' => e = .returned (.int .i64 (qA9 n m)) /\ w = w' := by
 by_cases h : n < 0
 ·have h2 := hZ (qJk n m h hm)
  go_enter Try.func13, Try.ntmps13
  go_wp2
  go_ret; exact ⟨qIP (by rw [<- h2.o, Int.neg_tmod]), rfl⟩
 ·go_enter Try.func13, Try.ntmps13
  go_wp2
  go_ret; exact ⟨qIP (by rw [qA9, if_neg (by omega)]), rfl⟩
def qB9 (w : World) (v : Value) (zs : List Int) (len : Nat) : Prop :=
 (∃ a cap, v = .slice a 0 cap /\ len = 0 /\ cap <= 9223372036854775807) \/ ∃ b off cap, v = .slice (some ⟨b, off, none⟩) len cap /\ b < w.heap.size /\ len <= cap /\ cap <= 9223372036854775807 /\ (∀ j, j < len -> w.cell? ⟨b, off + j, none⟩ = some (.int .i64 (zs[j]?.getD 0))) /\ (∀ j, j < len -> -9223372036854775808 <= zs[j]?.getD 0 /\ zs[j]?.getD 0 <= 9223372036854775807)
theorem qB9.below {w w' : World} {v : Value} {zs : List Int} {len : Nat} (h : qB9 w v zs len) {B : Nat} (hB : w.heap.size <= B) (hb : Below B w w') : qB9 w' v zs len := by
 rcases h with h | ⟨b, off, cap, hv, hlt, h1, h2, hc, hr⟩
 ·exact .inl h
 ·exact .inr ⟨b, off, cap, hv, Nat.lt_of_lt_of_le hlt hb.size, h1, h2, fun j hj => (hb.cell (p := ⟨b, off + j, none⟩) (Nat.lt_of_lt_of_le hlt hB)).trans (hc j hj), hr⟩
def qDT (zs : List Int) (len i : Nat) (m : Int) : Int := if i < len then qA9 (zs[i]?.getD 0) m else 0
theorem qCq (zs : List Int) (len i : Nat) (m : Int) (hm : 0 < m) : 0 <= qDT zs len i m /\ qDT zs len i m < m := by
 unfold qDT; by_cases h : i < len
 ·rw [if_pos h]; exact qAW _ _ hm
 ·rw [if_neg h]; omega
theorem qD0 (v : Value) (zs : List Int) (len i : Nat) (m : Int) (w : World) (h : qB9 w v zs len) (hi : i <= 4611686018427387904) (hm0 : 0 < m) (hm1 : m <= 4611686018427387904) :
 Calls Try.prog 29 #[v, .int .i64 i, .int .i64 m] w fun e w' => e = .returned (.int .i64 (qDT zs len i m)) /\ w' = w := by
 rcases h with ⟨a, cap, rfl, rfl, hcap⟩ | ⟨b, off, cap, rfl, hlt, h1, h2, hc, hr⟩
 ·have hp : Hid (qDT zs 0 i m = 0) := hZ (by unfold qDT; rw [if_neg (by omega)])
  go_enter Try.func29, Try.ntmps29
  go_wp2
  go_ret; exact ⟨by rw [hp.o]; rfl, rfl⟩
 ·by_cases hil : i < len
  ·have hp : Hid (qDT zs len i m = qA9 (zs[i]?.getD 0) m) := hZ (by unfold qDT; rw [if_pos hil])
   have hcell := hc i hil; have hri := hr i hil; clear hc hr; generalize zs[i]?.getD 0 = z at *
   go_enter Try.func29, Try.ntmps29
   go_wp2_with (go_at_call 13; refine (qBn z m w hri.1 hri.2 (by omega) (by omega)).mono ?_; rintro e w' ⟨rfl, rfl⟩)
   go_ret; exact ⟨by rw [hp.o]; rfl, rfl⟩
  ·have hp : Hid (qDT zs len i m = 0) := hZ (by unfold qDT; rw [if_neg hil])
   clear hc hr
   go_enter Try.func29, Try.ntmps29
   go_wp2
   go_ret; exact ⟨by rw [hp.o]; rfl, rfl⟩
open Go.RowKit
theorem qCO : qIy Try.prog 23 22 1 24 := qIy.mk (z := .slice none 0 0) Try.underlying23 (by kernel_rfl) rfl (by decide)
theorem qAA.of_own {w : World} {base : Nat} {v : Value} {l : List (Nat × Nat)} {M : List (List Int)} (h : w.ownsRow base 22 1 v l.length (l.map rwI)) (hr : qAI w l M) (hc : ∀ r ∈ M, r.length <= 9223372036854775807) : qAA w v M := by
 refine qAh.of_own (css := l.map (fun x => [rwI x])) (base := base) (e := 22) (by rw [qBA, List.length_map]; exact h) (fun cs h => by obtain ⟨x, _, rfl⟩ := List.mem_map.1 h; rfl) (by rw [List.length_map]; exact hr.len.symm) (fun j h1 h2 => ?_); have h3 : j < l.length := by rw [<- hr.len]; exact h1
 obtain ⟨k1, k2⟩ := hr.row j h3; rw [List.getElem_map]; refine ⟨_, rfl, ?_⟩; have := qBi k1 (Nat.le_refl _) (hc _ (List.getElem_mem _)); rw [k2] at this; exact this
theorem qAI.only' {w w' : World} {S : Nat -> Prop} {l : List (Nat × Nat)} {M : List (List Int)} (h : qAI w l M) (ho : qAc S w w') (hr : ∀ i (hi : i < l.length), ¬ S l[i].1) : qAI w' l M := ⟨h.len, fun i hi => ⟨(h.row i hi).1.only ho (hr i hi), (h.row i hi).2⟩⟩
theorem qBy {w : World} {base n g b : Nat} {v : Value} {xs cs : List Value} (h : w.ownsRow base 22 1 v n xs) (hb : v.ownBlock = some b) (hr : qAE w g 3 cs) : g ≠ b := by
 rintro rfl; rcases h.2 with ⟨hv, _⟩ | ⟨g', cap, cur, hv, _, hg, _⟩
 ·rw [hv] at hb; cases hb
 ·rw [hv] at hb
  simp only [Value.ownBlock, Option.some.injEq] at hb; subst hb; unfold qAE at hr; rw [hr] at hg; injection hg with hg; injection hg with _ hg2 _; exact absurd hg2 (by decide)
theorem qDx {w w' : World} {base k n : Nat} {e : TypeId} {v : Value} {xs : List Value} (hB : Below w.heap.size w w') (h : w.ownsRow base e k v n xs) : w'.ownsRow base e k v n xs := (qAc.of_below (S := fun _ => False) hB).own h (fun _ _ h => h)
end Go.Proofs.Ytlmbebbdamgfpaa
