/- the reference's integers: normal. -/
import Derived.Test.YtgfgjnkndfgdiaaDoorWLives
namespace Go.Proofs.YtgfgjnkndfgdiaaDoor
open Go.RowKit

abbrev T4 : Nat := 10000
theorem t4_two : 2 ≤ T4 := by decide

/-- digits of the reference -/
def DigAt (w : World) (v : Value) (n : Nat) : Prop := RowAt .i64 w v (digs T4 n)
/-- an integer of the reference -/
def RInt (w : World) (v : Value) (z : Int) : Prop := ∃ vd, v = .agg #[.bool (decide (z < 0)), vd] ∧ DigAt w vd z.natAbs

theorem RInt.below {w w' : World} {v : Value} {z : Int} {B : Nat} (h : RInt w v z) (hB : w.heap.size ≤ B) (hb : Below B w w') : RInt w' v z := by
  obtain ⟨vw, hv, hm⟩ := h
  exact ⟨vw, hv, RowAt.below hm hB hb⟩
theorem RInt.form {w : World} {v : Value} {z : Int} (h : RInt w v z) : ∃ a n c, v = .agg #[.bool (decide (z < 0)), .slice a n c] ∧ DigAt w (.slice a n c) z.natAbs ∧ n = (digs T4 z.natAbs).length ∧ n ≤ c ∧ c ≤ 9223372036854775807 := by
  obtain ⟨vd, hv, hm⟩ := h
  obtain ⟨a, c, rfl, h1, h2, h3⟩ := hm
  exact ⟨a, _, c, hv, ⟨a, c, rfl, h1, h2, h3⟩, rfl, h1, h2⟩

/-- what normal answers: the same row, shorter -/
def NormPost (neg : Bool) (v : Value) (L : List Nat) (w : World) (e : Ending) (w' : World) : Prop :=
  (∃ a cap b n, v = .slice a L.length cap ∧ e = .returned (.agg #[.bool b, .slice a n cap]) ∧ RInt w' (.agg #[.bool b, .slice a n cap]) (sgn neg (val T4 L))) ∧ Below w.heap.size w w'

set_option maxHeartbeats 1000000 in
theorem normal_at (neg : Bool) (v : Value) (L : List Nat) (w : World) (h : RowAt .i64 w v L) (hlow : Low T4 L) (hlen : L.length ≤ 4611686018427387904) :
    Calls Tryd.prog 50 #[.bool neg, v] w (NormPost neg v L w) := by
  have Htake := Lib.hid (fun n hn => h.take n hn)
  obtain ⟨a, cap, rfl, h1, h2, hc⟩ := h
  have Hc := Lib.hid hc
  have Hlow := Lib.hid hlow
  clear hc hlow
  obtain ⟨N, hN⟩ : ∃ N, L.length = N := ⟨_, rfl⟩
  have HN := Lib.hid hN
  rw [hN] at h1 hlen ⊢
  clear hN
  go_enter Tryd.func50, Tryd.ntmps50
  go_wp2
  have HB0 := Lib.hid ((Below.refl w.heap.size w).alloc (Nat.le_refl _) (.cells #[.bool false, .slice none 0 0] 25))
  have HT0 := Lib.hid (Two.new w 25 (.bool false) (.slice none 0 0))
  generalize hw0 : w.alloc (.cells #[.bool false, .slice none 0 0] 25) = w0 at *
  have f0 := HT0.out.cell0
  have f1 := HT0.out.cell1
  have f2 := HT0.out.frozen 0
  have f3 := HT0.out.frozen 1
  clear hw0
  go_loop [1] (fun i => ∃ n : Nat, n ≤ N ∧ i = .slice a n cap ∧ Hid (∀ j (h : j < L.length), n ≤ j → L[j] = 0)) (fun i => lenV i)
  case atStart => exact ⟨N, Nat.le_refl _, rfl, Lib.hid (fun j hj hn => by rw [HN.out] at hj; omega)⟩
  case round =>
    obtain ⟨n, hn, rfl, hz⟩ := hrel
    have hdone : ∀ n : Nat, n ≤ N → (∀ j (h : j < L.length), n ≤ j → L[j] = 0) → (∀ h : n - 1 < L.length, n = 0 ∨ L[n - 1] ≠ 0) → ∀ b : Bool, b = (neg && decide (0 < n)) → ∀ u u' : Value, RInt ((w0.setCell ⟨w.heap.size, 0, none⟩ u).setCell ⟨w.heap.size, 1, none⟩ u') (.agg #[.bool b, .slice a n cap]) (sgn neg (val T4 L)) := by
      intro n hn hz hl b hb u u'
      obtain ⟨a', cap', hv, _, _, hr⟩ := Htake.out n (by rw [HN.out]; exact hn)
      rw [HN.out] at hv
      injection hv with e1 e2 e3
      subst e1 e3
      rw [take_digs T4 t4_two L Hlow.out n (by rw [HN.out]; exact hn) hz hl] at hr
      have hnl : n = (digs T4 (val T4 L)).length := by obtain ⟨_, _, hv, _⟩ := hr; injection hv
      refine ⟨.slice a n cap, ?_, ?_⟩
      · rw [sgn_neg, hb, hnl]
        have e9 : decide (0 < (digs T4 (val T4 L)).length) = decide (0 < val T4 L) := by
          congr 1
          rw [eq_iff_iff, List.length_pos_iff, ne_eq, digs_nil T4 _ t4_two]
          omega
        rw [e9]
      · rw [sgn_natAbs]
        exact RowAt.set_two (RowAt.below hr (Nat.le_refl _) HB0.out) HT0.out u u'
    have Hd := Lib.hid hdone
    clear hdone
    by_cases h0 : n = 0
    · subst h0
      cases neg with
      | false =>
        go_wp2
        refine bodyPost_ret (v := .agg #[.bool false, .slice a 0 cap]) (by simp [results, Tryd.results50, go_sem, f0, f1]) rfl ⟨⟨_, _, _, _, HN.out ▸ rfl, rfl, Hd.out 0 hn hz.out (fun _ => .inl rfl) _ (by simp) _ _⟩, (HB0.out.setCell (p := ⟨w.heap.size, 0, none⟩) (Nat.le_refl _) _).setCell (p := ⟨w.heap.size, 1, none⟩) (Nat.le_refl _) _⟩
      | true =>
        go_wp2
        refine bodyPost_ret (v := .agg #[.bool false, .slice a 0 cap]) (by simp [results, Tryd.results50, go_sem, f0, f1]) rfl ⟨⟨_, _, _, _, HN.out ▸ rfl, rfl, Hd.out 0 hn hz.out (fun _ => .inl rfl) _ (by simp) _ _⟩, (HB0.out.setCell (p := ⟨w.heap.size, 0, none⟩) (Nat.le_refl _) _).setCell (p := ⟨w.heap.size, 1, none⟩) (Nat.le_refl _) _⟩
    · have hlt : n - 1 < L.length := by rw [HN.out]; omega
      obtain ⟨b, off, rfl, hb, hcc⟩ := Hc.out (by rw [HN.out]; omega)
      have hcell := (HB0.out.cell (p := ⟨b, off + (n - 1), none⟩) hb).trans (hcc (n - 1) hlt)
      clear hcc
      have hi : (off : Int) + ((n : Int) - 1) = ((off + (n - 1) : Nat) : Int) := by omega
      by_cases hzz : L[n - 1] = 0
      · have hz2 : Hid (∀ j (h : j < L.length), n - 1 ≤ j → L[j] = 0) := Lib.hid (fun j hj hnj => by
          by_cases e : j = n - 1
          · subst e; exact hzz
          · exact hz.out j hj (by omega))
        rw [hzz] at hcell
        clear hzz
        go_wp2
        go_round
        case rel => exact ⟨n - 1, by omega, by first | rfl | (congr 1; omega), hz2⟩
        case measure => simp [lenV]; omega
      · have hne : (((L[n - 1] : Nat) : Int) == 0) = false := by simp; exact hzz
        have hnp : 0 < n := by omega
        cases neg with
        | false =>
          go_wp2
          refine bodyPost_ret (v := .agg #[.bool false, .slice (some ⟨b, off, none⟩) n cap]) (by simp [results, Tryd.results50, go_sem, f0, f1]) rfl ⟨⟨_, _, _, _, HN.out ▸ rfl, rfl, Hd.out n hn hz.out (fun _ => .inr hzz) _ (by simp [hnp]) _ _⟩, (HB0.out.setCell (p := ⟨w.heap.size, 0, none⟩) (Nat.le_refl _) _).setCell (p := ⟨w.heap.size, 1, none⟩) (Nat.le_refl _) _⟩
        | true =>
          go_wp2
          refine bodyPost_ret (v := .agg #[.bool true, .slice (some ⟨b, off, none⟩) n cap]) (by simp [results, Tryd.results50, go_sem, f0, f1]) rfl ⟨⟨_, _, _, _, HN.out ▸ rfl, rfl, Hd.out n hn hz.out (fun _ => .inr hzz) _ (by simp [hnp]) _ _⟩, (HB0.out.setCell (p := ⟨w.heap.size, 0, none⟩) (Nat.le_refl _) _).setCell (p := ⟨w.heap.size, 1, none⟩) (Nat.le_refl _) _⟩

theorem normal_any (neg : Bool) (v : Value) (L : List Nat) (w : World) (h : RowAt .i64 w v L) (hlow : Low T4 L) (hlen : L.length ≤ 4611686018427387904) :
    Calls Tryd.prog 50 #[.bool neg, v] w fun e w' => (∃ vr, e = .returned vr ∧ RInt w' vr (sgn neg (val T4 L))) ∧ Below w.heap.size w w' :=
  (normal_at neg v L w h hlow hlen).mono (by rintro e w' ⟨⟨a, cap, b, n, hv, rfl, h1⟩, hB⟩; exact ⟨⟨_, rfl, h1⟩, hB⟩)

end Go.Proofs.YtgfgjnkndfgdiaaDoor
