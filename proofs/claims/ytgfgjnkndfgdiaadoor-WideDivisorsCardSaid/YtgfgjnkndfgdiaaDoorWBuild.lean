/- strings.Builder's writers at this program; texts of numbers. -/
import Derived.Test.YtgfgjnkndfgdiaaDoorShelf
import Derived.Test.YtgfgjnkndfgdiaaDoorWSmall
import Derived.Deep.AppendLies
namespace Go.Proofs.YtgfgjnkndfgdiaaDoor
open Go.RowKit

theorem bextra : Builder.Extra Tryd.prog Tryd.lays105_ren where
  sizeBuilder := by kernel_rfl
  liesBuilder := by kernel_rfl
  t5 := Tryd.underlying5
  a5 := Tryd.isAgg5
  z5 := Tryd.sizeOf5
  v5 := Tryd.zeroValue5
  infoByte := by kernel_rfl
  cellsByte := by kernel_rfl
  sizeByte := by kernel_rfl
  neB5 := by decide
theorem lays169 : Go.Proofs.Lays.n169 Tryd.prog Tryd.lays105_ren := { Tryd.lays105 with }
theorem lays240 : Go.Proofs.Lays.n240 Tryd.prog Tryd.lays105_ren := { Tryd.lays105 with }
theorem lays166 : Go.Proofs.Lays.n166 Tryd.prog Tryd.lays105_ren := { Tryd.lays105 with }

theorem bcopy_any (B b : Nat) (bs : List Value) (w : World) (h : Lib.IsBuilder 83 5 B b bs w) :
    Calls Tryd.prog 75 #[.pointer (some ⟨b, 0, none⟩)] w fun e w' => e = .returned (.tuple #[]) ∧ (Lib.BuilderAt 83 5 B b (.pointer (some ⟨b, 0, none⟩)) bs w' ∧ Below B w w') :=
  Any.Builder_copyCheck lays240 bextra.toX72 B b bs w h

theorem bstring_any (B b : Nat) (bs : List Value) (s : ByteArray) (w : World) (h : Lib.IsBuilder 83 5 B b bs w) (hlen : bs.length + s.size ≤ 140737488355328) (hBw : B ≤ w.heap.size) :
    Calls Tryd.prog 56 #[.pointer (some ⟨b, 0, none⟩), .string s] w fun e w' => e = .returned (.tuple #[.int .i64 s.size, .nilIface]) ∧ (Lib.BuilderAt 83 5 B b (.pointer (some ⟨b, 0, none⟩)) (bs ++ Lib.strCells s) w' ∧ Below B w w') :=
  Any.Builder_WriteString lays166 bextra B b bs s w h hlen hBw

theorem info8 : (Tryd.prog.info? 5).map (fun i => (i.zero, i.size, i.bytes)) = some (some (.int .u8 0), 1, 1) := by kernel_rfl

set_option maxHeartbeats 1000000 in
theorem bbyte_any (B b : Nat) (bs : List Value) (c : Int) (w : World) (h : Lib.IsBuilder 83 5 B b bs w) (hlen : bs.length + 1 ≤ 140737488355328) (hBw : B ≤ w.heap.size) :
    Calls Tryd.prog 55 #[.pointer (some ⟨b, 0, none⟩), .int .u8 c] w fun e w' => e = .returned .nilIface ∧ (Lib.BuilderAt 83 5 B b (.pointer (some ⟨b, 0, none⟩)) (bs ++ [.int .u8 c]) w' ∧ Below B w w') := by
  obtain ⟨i0, hi, hz0, hz1, hz2⟩ := info_parts info8
  have H := Lib.hid h
  clear h
  go_enter Tryd.func55, Tryd.ntmps55
  go_wp2_with fail
  refine (bcopy_any B b bs w H.out).mono ?_
  rintro e w1 ⟨rfl, ⟨hB, v, hbk, hown, hne⟩, hb1⟩
  have c0 : w1.cell? ⟨b, 0, none⟩ = some (.pointer (some ⟨b, 0, none⟩)) := by rw [Lib.cell_of_heap hbk]; rfl
  have c1 : w1.cell? ⟨b, 1, none⟩ = some v := by rw [Lib.cell_of_heap hbk]; rfl
  have Hbk := Lib.hid hbk
  have Hown := Lib.hid hown
  have Hb1 := Lib.hid hb1
  have z1 := hb1.size
  have hlt : b < w1.heap.size := by
    rcases Nat.lt_or_ge b w1.heap.size with h' | h'
    · exact h'
    · rw [Array.getElem?_eq_none h'] at hbk; cases hbk
  clear hbk hown hb1
  go_wp2_with (at_builtin; refine wpList_append_own _ rfl _ _ 29 rfl B 5 i0 (.int .u8 0) 1 1 Tryd.underlying29 hi hz0 hz1 hz2 rfl (by decide) _ _ _ rfl (Hown.out.alloc _) ⟨w1.heap.size, 0, none⟩ 1 1 [.int .u8 c] rfl rfl ?c1 ?c2 ?c3 ?c4 ?c5 ?_)
  case c1 =>
    intro j u hj
    match j, hj with
    | 0, hj => simp at hj; subst hj; simp [Addr.add]
  case c2 => intro u hu; simp at hu; subst hu; rfl
  case c3 => unfold maxLen; omega
  case c4 => omega
  case c5 => simp; omega
  intro v' w2 hown' hgrow _
  have hbk2 : w2.heap[b]? = some (.cells #[.pointer (some ⟨b, 0, none⟩), v] 83 (0, 0)) := by
    rw [hgrow.block b (by simp; omega) (by rw [ne_comm]; exact hne)]
    exact (Below.heap_alloc w1 _ b hlt).trans Hbk.out
  obtain ⟨g2, cap2, hv2, _⟩ := hown'.form (by omega)
  subst hv2
  have d0 : w2.cell? ⟨b, 0, none⟩ = some (.pointer (some ⟨b, 0, none⟩)) := by rw [Lib.cell_of_heap hbk2]; rfl
  have d1 : w2.cell? ⟨b, 1, none⟩ = some v := by rw [Lib.cell_of_heap hbk2]; rfl
  have f1 : w2.frozen? ⟨b, 1, none⟩ = false := Lib.frozen_of_heap hbk2 1
  have Hown' := Lib.hid hown'
  have Hgrow := Lib.hid hgrow
  have Hbk2 := Lib.hid hbk2
  clear hown' hgrow hbk2
  go_wp2
  go_ret
  refine ⟨rfl, Lib.BuilderAt.put hB Hbk2.out (by simpa using Hown'.out) (by decide), ?_⟩
  exact ((Hb1.out.alloc (by omega) _).grown Hgrow.out (by simp; omega) (fun r e => (Hown.out.lt r e).1)).setCell (p := ⟨b, 1, none⟩) hB _

theorem btext_any (B b : Nat) (l : List UInt8) (w : World) (h : Lib.IsBuilder 83 5 B b (Lib.byteCells l) w) (hBw : B ≤ w.heap.size) :
    Calls Tryd.prog 57 #[.pointer (some ⟨b, 0, none⟩)] w fun e w' => e = .returned (.string ⟨l.toArray⟩) ∧ Below B w w' :=
  Any.Builder_String_any lays169 bextra B b l w h hBw

theorem repeat_any (s : ByteArray) (c : Nat) (w : World) (hc : c ≤ 9223372036854775807) (hlen : s.size * c ≤ 140737488355328) :
    Calls Tryd.prog 54 #[.string s, .int .i64 c] w fun e w' => e = .returned (.string ⟨(Lib.repeatL s.data.toList c).toArray⟩) ∧ Below w.heap.size w w' :=
  Any.strings_Repeat Tryd.lays105 bextra s c w hc hlen

theorem itoa_dec (n : Nat) : Lib.itoa (n : Int) = dec n := by
  have h : ∀ u : Nat, Lib.decDigits u = dec u := by
    intro u
    induction u using Nat.strongRecOn with
    | _ u ih =>
      rw [Lib.decDigits]
      by_cases h : u < 10
      · rw [dif_pos h]
        unfold dec
        by_cases h0 : u = 0
        · subst h0; rfl
        · rw [if_neg h0, decP_pos u h0, Nat.div_eq_of_lt h, Nat.mod_eq_of_lt h, decP_zero]; rfl
      · rw [dif_neg h, ih (u / 10) (by omega)]
        unfold dec
        rw [if_neg (by omega), if_neg (by omega), decP_pos u (by omega)]; rfl
  unfold Lib.itoa
  rw [if_neg (by omega), Int.toNat_natCast, h]

theorem repeat_zero (c : Nat) : Lib.repeatL [48] c = List.replicate c 48 := by
  induction c with
  | zero => rfl
  | succ c ih => rw [Lib.repeatL, ih, List.replicate_succ]; rfl

end Go.Proofs.YtgfgjnkndfgdiaaDoor
