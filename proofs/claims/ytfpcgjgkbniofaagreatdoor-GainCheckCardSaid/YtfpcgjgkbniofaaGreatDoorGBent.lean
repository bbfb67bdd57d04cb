/- law11.bent: a list with one number changed. -/
import Derived.Test.YtfpcgjgkbniofaaGreatDoorGAppI
import Derived.Test.YtfpcgjgkbniofaaGreatDoorGRef01
import Derived.IntWalk
set_option linter.unusedVariables false
set_option linter.unusedSimpArgs false
namespace Go.Proofs.YtfpcgjgkbniofaaGreatDoor
open Go.RowKit
attribute [local go_sem] Oper.semAt_some

def bentL (l : List Int) (a b : Int) : List Int :=
  if l = [] then [] else l.set (around a l.length).toNat (IntKind.i64.wrap (l[(around a l.length).toNat]?.getD 0 + b))
theorem wrap_in (x : Int) : -9223372036854775808 ≤ IntKind.i64.wrap x ∧ IntKind.i64.wrap x ≤ 9223372036854775807 := by
  rw [IntKind.wrap_i64]
  omega
set_option maxHeartbeats 4000000 in
theorem bent_any (v : Value) (l : List Int) (a b : Int) (w : World) (h : IntsOf w v l) (hl : l.length ≤ 1000000) (ha1 : -9223372036854775808 ≤ a) (ha2 : a ≤ 9223372036854775807) :
    Calls Tryz.prog 21 #[v, .int .i64 a, .int .i64 b] w fun e w' => (∃ v', e = .returned v' ∧ IntsOf w' v' (bentL l a b)) ∧ Below w.heap.size w w' := by
  obtain ⟨sa, sc, rfl, hs1, hs2⟩ := h.form
  have hB : Below w.heap.size w (w.alloc (.cells #[] 3)) := (Below.refl _ _).alloc (Nat.le_refl _) _
  have HO : Hid ((w.alloc (.cells #[] 3)).ownsRow w.heap.size 3 1 (.slice (some ⟨w.heap.size, 0, none⟩) 0 0) 0 []) := Lib.hid (own_full w 3 [] (by simp))
  have HI4 := Lib.hid (h.below hB)
  have HBA := Lib.hid hB
  clear hB h
  go_enter Tryz.func21, Tryz.ntmps21
  by_cases h0 : l = []
  · subst h0
    go_wp2_with (at_builtin; refine wpList_appI (W0 := w) (B := w.heap.size) elemInt rfl _ _ rfl (.slice (some ⟨w.heap.size, 0, none⟩) 0 0) (.slice sa 0 sc) 0 [] [] rfl rfl HI4.out HO.out HBA.out HBA.out.size (by simp) (by omega) ?_)
    intro v5 w5 HO5 HB5 _
    have HI5 : Hid (IntsOf w5 v5 []) := Lib.hid (ints_of_own (l := []) (by simpa using HO5.out))
    obtain ⟨sb, sd, rfl, -, -⟩ := HI5.out.form
    simp only [List.length_nil] at HI5 ⊢
    go_wp2_with fail
    go_ret
    exact ⟨⟨_, rfl, HI5.out⟩, HB5.out⟩
  · have hp : 0 < l.length := List.length_pos_iff.2 h0
    have HL0 := Lib.hid h0
    clear h0
    have har := around_range a l.length (by omega)
    have hcall := fun W => around_any a l.length W ha1 ha2 (by omega) (by omega)
    obtain ⟨k, hk⟩ : ∃ k : Nat, around a l.length = (k : Int) := ⟨(around a l.length).toNat, by omega⟩
    rw [hk] at har hcall
    have HCALL := Lib.hid hcall
    have hkl : k < l.length := by omega
    have HBE : Hid (bentL l a b = l.set k (IntKind.i64.wrap (l[k] + b))) := Lib.hid (by
      unfold bentL
      rw [if_neg HL0.out, hk, Int.toNat_natCast, List.getElem?_eq_getElem hkl]
      rfl)
    clear hcall hk
    go_wp2_with (at_builtin; refine wpList_appI (W0 := w) (B := w.heap.size) elemInt rfl _ _ rfl (.slice (some ⟨w.heap.size, 0, none⟩) 0 0) (.slice sa l.length sc) 0 [] l rfl rfl HI4.out HO.out HBA.out HBA.out.size (by omega) (by omega) ?_)
    intro v5 w5 HO5 HB5 _
    obtain ⟨g, cap, rfl, hgb, hx1, hx2, tl, hxt⟩ := own_ints (l := l) (by simpa using HO5.out) (by omega) (by omega)
    have HXT := Lib.hid hxt
    have i1 : (0 : Int) ≤ (k : Int) := by omega
    have i2 : (k : Int) < (l.length : Int) := by omega
    have z0 := hxt.cell k
    rw [List.getElem?_append_left (by simpa using hkl), List.getElem?_map, List.getElem?_eq_getElem hkl, Option.map_some] at z0
    obtain ⟨x, hx⟩ : ∃ x, l[k] = x := ⟨_, rfl⟩
    obtain ⟨y, hy⟩ : ∃ y, IntKind.i64.wrap (x + b) = y := ⟨_, rfl⟩
    rw [hx] at z0
    replace z0 : w5.cell? ⟨g, k, none⟩ = some (.int .i64 x) := z0
    have HX := Lib.hid hx
    have HY := Lib.hid hy
    have zf := hxt.frozen k
    have q1 : decide (0 < l.length) = true := decide_eq_true hp
    have q2 : decide ((0 : Int) < (l.length : Int)) = true := decide_eq_true (by omega)
    clear HI4 HO HBA HO5 hxt hx
    go_wp2_with fail
    refine (HCALL.out w5).mono ?_
    rintro e w' ⟨rfl, rfl⟩
    go_wp2_with fail
    go_ret
    refine ⟨⟨_, rfl, ?_⟩, ?_⟩
    · have h9 := HXT.out.set k (.int .i64 y)
      rw [pre_set' _ _ _ _ hkl] at h9
      have h8 := ints_of_pre' (cap := cap) h9 (by simpa using hx1) hx2
      rw [HBE.out, HX.out, HY.out]
      simpa using h8
    · exact HB5.out.setCell (p := ⟨g, k, none⟩) hgb _
end Go.Proofs.YtfpcgjgkbniofaaGreatDoor
