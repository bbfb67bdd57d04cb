/- wide: divide, its short way. -/
import Derived.Test.YtgfgjnkndfgdiaaDoorWParse
import Derived.Scope
namespace Go.Proofs.YtgfgjnkndfgdiaaDoor
open Go.RowKit

def DivPost (m d : Nat) (w : World) (e : Ending) (w' : World) : Prop :=
  Below w.heap.size w w' ∧ ∃ vq vr, e = .returned (.tuple #[vq, vr]) ∧ MagAt w' vq (m / d) ∧ MagAt w' vr (m % d)

set_option maxHeartbeats 4000000 in
theorem divide_short (va vb : Value) (m d : Nat) (w : World) (ha : MagAt w va m) (hb : MagAt w vb d) (hd0 : d ≠ 0) (hm : m < LIM) (hd : m < d ∨ d < W2) (hd2 : d < LIM) :
    Calls Tryd.prog 64 #[va, vb] w (DivPost m d w) := by
  have Ha := Lib.hid ha
  have Hb := Lib.hid hb
  have hla := (lim_len m).2 hm
  have hlb := (lim_len d).2 hd2
  have Hcmp := Lib.hid (compare_any va vb m d w ha hb (by omega) (by omega))
  obtain ⟨aa, ca, rfl, h1, h2, h3⟩ := ha
  obtain ⟨ab, cb, rfl, h4, h5, h6⟩ := hb
  have Hla := Lib.hid hla
  have Hlb := Lib.hid hlb
  have H6 := Lib.hid h6
  clear h3 h6 hm hd2 hla hlb
  by_cases hlt : m < d
  · have hc3 : cmp3 (m : Int) (d : Int) = -1 := by unfold cmp3; rw [if_pos (by omega)]
    rw [hc3] at Hcmp
    have Hlt := Lib.hid hlt
    have Hcl := Lib.hid (fun n => clone_mag _ m (w.drewN n) Ha.out (by have := Hla.out; omega))
    clear hlt hd hc3 H6
    generalize (digs W2 m).length = M at *
    generalize (digs W2 d).length = N at *
    go_enter Tryd.func64, Tryd.ntmps64
    go_wp2_with fail
    refine wp_scope_straight ?_
    go_wp2_with fail
    refine Hcmp.out.mono ?_
    rintro e w' ⟨rfl, k, rfl⟩
    go_wp2_with fail
    refine (Hcl.out k).mono ?_
    rintro e w1 ⟨a1, l1, c1, rfl, hm1, hB⟩
    have HB := Lib.hid (Below.trans (show Below w.heap.size w (w.drewN k) from ⟨rfl, rfl, rfl, Nat.le_refl _, fun _ _ => rfl⟩) hB)
    have Hm1 := Lib.hid hm1
    clear hB hm1 Hcl Hcmp
    go_wp2
    refine bodyPost_ret (v := .tuple #[.slice none 0 0, .slice a1 l1 c1]) (by simp [results, Tryd.results64, go_sem]) rfl ⟨HB.out, _, _, rfl, ?_, ?_⟩
    · rw [Nat.div_eq_of_lt Hlt.out]
      unfold MagAt
      rw [digs_zero]
      exact RowAt.nil _ _ (by omega)
    · rw [Nat.mod_eq_of_lt Hlt.out]; exact Hm1.out
  · have hd4 := hd.resolve_left hlt
    have hdl : digs W2 d = [d] := by
      rw [digs_pos W2 d w2_two hd0, Nat.div_eq_of_lt hd4, digs_zero, Nat.mod_eq_of_lt hd4]
    have Hdf := Lib.hid (fun n => divf_any _ m d (w.drewN n) Ha.out (by omega) (by omega) (by have := Hla.out; omega))
    have hc3 : ¬ (cmp3 (m : Int) (d : Int) < 0) := by
      unfold cmp3
      rw [if_neg (by omega)]
      split <;> simp
    generalize cmp3 (m : Int) (d : Int) = C at *
    obtain ⟨b, off, rfl, hbl, hcell⟩ := H6.out (by rw [hdl]; simp)
    have hcd : ∀ n, (w.drewN n).cell? ⟨b, off, none⟩ = some (.int .u32 (d : Int)) := fun n => by
      have h7 := hcell 0 (by rw [hdl]; simp)
      rw [Nat.add_zero] at h7
      show w.cell? _ = _
      rw [h7]
      simp [hdl]
    have hdl1 : (digs W2 d).length = 1 := by rw [hdl]; rfl
    rw [hdl1] at Hb Hcmp Hlb h4 ⊢
    have Hcd := Lib.hid hcd
    have Hd4 := Lib.hid hd4
    have Hd0 := Lib.hid hd0
    clear hcd hcell H6 hdl hdl1 hd hlt hd4 hd0
    generalize (digs W2 m).length = M at *
    go_enter Tryd.func64, Tryd.ntmps64
    go_wp2_with fail
    refine wp_scope_straight ?_
    go_wp2_with fail
    refine Hcmp.out.mono ?_
    rintro e w' ⟨rfl, k, rfl⟩
    have hcd := Hcd.out k
    go_wp2_with fail
    refine (Hdf.out k).mono ?_
    rintro e w1 ⟨QL, qc, rfl, hm1, hB⟩
    have HB := Lib.hid (Below.trans (show Below w.heap.size w (w.drewN k) from ⟨rfl, rfl, rfl, Nat.le_refl _, fun _ _ => rfl⟩) hB)
    have Hm1 := Lib.hid hm1
    have z1 := HB.out.size
    obtain ⟨r, hr⟩ : ∃ r, m % d = r := ⟨_, rfl⟩
    have hrl : r < 4294967296 := by rw [← hr]; exact Nat.lt_trans (Nat.mod_lt _ (Nat.pos_of_ne_zero Hd0.out)) Hd4.out
    have Hr := Lib.hid hr
    rw [hr]
    clear hB hm1 Hdf Hcmp hcd hr
    go_wp2_with fail
    have hblk : Blk (w1.alloc (.cells #[.int .u32 (r : Int)] 74)) w1.heap.size 74 .u32 [r] := heap_alloc_new w1 _
    refine (trim_any (.slice (some ⟨w1.heap.size, 0, none⟩) 1 1) [r] _ (RowAt.of_blk hblk (by simp) (by simp)) (fun x hx => by rw [List.mem_singleton.1 hx]; exact hrl) (by simp)).mono ?_
    rintro e w2 ⟨v2, rfl, hr2, rfl⟩
    have hv1 : val W2 [r] = r := by simp [val]
    rw [hv1] at hr2
    have Hr2 := Lib.hid hr2
    obtain ⟨a2, c2, rfl, _, _, _⟩ := hr2
    clear hblk hv1
    go_wp2
    refine bodyPost_ret (v := .tuple #[.slice (some ⟨w.heap.size, 0, none⟩) QL qc, .slice a2 (digs W2 r).length c2]) (by simp [results, Tryd.results64, go_sem]) rfl ⟨HB.out.alloc z1 _, _, _, rfl, ?_, ?_⟩
    · exact RowAt.below Hm1.out (Nat.le_refl _) ((Below.refl _ _).alloc (Nat.le_refl _) _)
    · rw [Hr.out]; exact Hr2.out

end Go.Proofs.YtgfgjnkndfgdiaaDoor
