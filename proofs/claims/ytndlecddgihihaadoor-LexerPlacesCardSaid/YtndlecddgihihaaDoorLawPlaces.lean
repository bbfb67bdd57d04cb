/- The law LexerPlaces: it returns true. -/
import Derived.Test.YtndlecddgihihaaDoorClean
import Derived.Test.YtndlecddgihihaaDoorLives
namespace Go.Proofs.YtndlecddgihihaaDoor
open Go.RowKit

/-- the tokens of a text that has none -/
theorem tokens_none (g : ByteArray) (w : World) (hs : g.size ≤ 8192) (hK : Kinds w) (h : ∀ M, lx M g.data.toList = .ok []) :
    Calls Tryd.prog 18 #[.string g] w fun e w' => ∃ a cap, e = .returned (.tuple #[.slice a 0 cap, .int .i64 0, .int .i64 0]) ∧ cap ≤ 9223372036854775807 ∧ Below w.heap.size w w' := by
  refine (tokens_any g w (by omega) hK).mono ?_
  have hx : lxs g = .ok [] := by unfold lxs; rw [if_neg (by omega)]; exact h _
  rintro e w' ⟨hB, ⟨ts, v, hx', _, rfl, hown⟩ | ⟨k, er, hx', rfl, _⟩⟩
  · rw [hx] at hx'
    cases hx'
    rcases hown.2 with ⟨rfl, _⟩ | ⟨b, cap, cur, rfl, _, _, _, hm, _⟩
    · exact ⟨none, 0, rfl, by omega, hB⟩
    · exact ⟨_, cap, rfl, by unfold maxLen at hm; omega, hB⟩
  · rw [hx] at hx'; cases hx'

/-- through the tokens: i of them have come, the text is read up to k -/
def PlaceAt (s : ByteArray) (ts : List Tok) (i k : Nat) : Prop := k ≤ s.size ∧ (i ≤ ts.length → lx s.size (s.data.toList.drop k) = .ok (ts.drop i))

theorem PlaceAt.step {s : ByteArray} {ts : List Tok} {i k : Nat} (h : PlaceAt s ts i k) (hi : i < ts.length) :
    k ≤ ts[i].at_ ∧ ts[i].at_ + ts[i].text.length ≤ s.size ∧ PlaceAt s ts (i + 1) (ts[i].at_ + ts[i].text.length) ∧
      s.extract ts[i].at_ (ts[i].at_ + ts[i].text.length) = ⟨ts[i].text.toArray⟩ ∧ (∀ M, lx M (s.extract k ts[i].at_).data.toList = .ok []) := by
  have h1 := h.2 (by omega)
  rw [List.drop_eq_getElem_cons hi] at h1
  obtain ⟨a1, a2, _, a4, a5, a6⟩ := place_step s k ts[i] _ h.1 h1
  exact ⟨a1, a2, ⟨a2, fun _ => a4⟩, a5, a6⟩

theorem PlaceAt.ends {s : ByteArray} {ts : List Tok} {k : Nat} (h : PlaceAt s ts ts.length k) : ∀ M, lx M (s.extract k s.size).data.toList = .ok [] := by
  have h1 := h.2 (Nat.le_refl _)
  rw [List.drop_length] at h1
  exact place_end s k h.1 h1

set_option maxRecDepth 100000 in
set_option maxHeartbeats 2000000 in
theorem lexerPlaces_any (v : Value) (zs : List Int) (len : Nat) (w : World) (hl : IntsAt w v zs len) (hK : Kinds w) :
    Calls Tryd.prog 7 #[v] w fun e w' => e = .returned (.bool true) ∧ Below w.heap.size w w' := by
  have HK := Lib.hid hK
  have Hl := Lib.hid hl
  have hg := hK.lt
  have hc := cleanText_len zs len
  obtain ⟨ts, hts⟩ := cleanText_ok zs len
  clear hK hl
  go_enter Tryd.func7, Tryd.ntmps7
  go_wp2_with fail
  refine (clean_any v zs len w Hl.out).mono ?_
  rintro e w1 ⟨rfl, hB1⟩
  have HB1 := Lib.hid hB1
  have z1 := hB1.size
  clear hB1
  have hcs : (⟨(cleanText zs len).toArray⟩ : ByteArray).size ≤ 456 := hc
  generalize (⟨(cleanText zs len).toArray⟩ : ByteArray) = s at *
  clear hc
  have Hts := Lib.hid hts
  clear hts
  go_wp2_with fail
  refine (tokens_any s w1 (by omega) (HK.out.below HB1.out hg)).mono ?_
  rintro e w2 ⟨hB2, ⟨ts', v2, hx', hlen, rfl, hown⟩ | ⟨k, er, hx', rfl, _⟩⟩
  rotate_left
  · rw [Hts.out] at hx'; cases hx'
  rw [Hts.out] at hx'
  obtain rfl : ts = ts' := by cases hx'; rfl
  clear hx'
  have HB2 := Lib.hid (HB1.out.trans (hB2.mono z1))
  have z2 := HB2.out.size
  clear hB2
  have hp0 : PlaceAt s ts 0 0 := ⟨by omega, fun _ => by
    have := Hts.out
    unfold lxs at this
    rw [if_neg (by omega)] at this
    exact this⟩
  have Hp0 := Lib.hid hp0
  clear hp0
  have ht := TokAt.of_owns hown
  have hlt2 := hown.lt
  clear hown
  obtain ⟨a0, cap, hv2, hcap, hcells⟩ : ∃ a0 cap, v2 = .slice a0 ts.length cap ∧ cap ≤ 9223372036854775807 ∧ ∀ i (hi : i < ts.length), ∃ g, a0 = some ⟨g, 0, none⟩ ∧ g < w2.heap.size ∧ ts.length ≤ cap ∧ w2.cell? ⟨g, i * 4 + 1, none⟩ = some (.string ⟨ts[i].text.toArray⟩) ∧ w2.cell? ⟨g, i * 4 + 3, none⟩ = some (.int .i64 ts[i].at_) := by
    rcases ht with ⟨rfl, rfl⟩ | ⟨g, cap, rfl, h1, h2, h3⟩
    · exact ⟨none, 0, rfl, by omega, fun i hi => absurd hi (by simp)⟩
    · refine ⟨_, cap, rfl, by unfold maxLen at h2; omega, fun i hi => ⟨g, rfl, (hlt2 g rfl).2, h1, ?_, ?_⟩⟩
      · exact h3 _ _ (cellsOf_get ts i hi).2.1
      · exact h3 _ _ (cellsOf_get ts i hi).2.2.2
  subst hv2
  have Hcells := Lib.hid hcells
  clear hcells ht hlt2
  obtain ⟨n, hn⟩ : ∃ n, ts.length = n := ⟨_, rfl⟩
  have Hn := Lib.hid hn
  rw [hn] at hlen ⊢
  clear hn
  go_wp2_with fail
  go_loopw [7, 8] (fun at_ i wr => ∃ (j k : Nat), j ≤ n + 1 ∧ k ≤ s.size ∧ i = .int .i64 j ∧ at_ = .int .i64 k ∧ Hid (PlaceAt s ts j k) ∧ Hid (Below w2.heap.size w2 wr)) (fun _ i _ => n + 1 - (intOf i).toNat)
  case atStart => exact ⟨0, 0, by omega, by omega, rfl, rfl, Hp0, Lib.hid (Below.refl _ _)⟩
  case round =>
    obtain ⟨j, k, hj, hk, rfl, rfl, hP, hB⟩ := hrel
    have z3 := hB.out.size
    have HKr := Lib.hid (HK.out.below (HB2.out.trans (hB.out.mono z2)) hg)
    by_cases hlt : j < n
    · have hjt : j < ts.length := by rw [Hn.out]; exact hlt
      obtain ⟨g, rfl, hgb, hlc, hc1, hc3⟩ := Hcells.out j hjt
      rw [Hn.out] at hlc
      have c1 := (hB.out.cell (p := ⟨g, j * 4 + 1, none⟩) hgb).trans hc1
      have c3 := (hB.out.cell (p := ⟨g, j * 4 + 3, none⟩) hgb).trans hc3
      obtain ⟨b1, b2, b3, b4, b5⟩ := hP.out.step hjt
      have Hb3 := Lib.hid b3
      have Hb4 := Lib.hid b4
      have Hb5 := Lib.hid b5
      clear hc1 hc3 b3 b4 b5
      generalize (ts[j]'hjt).at_ = at1 at *
      generalize (ts[j]'hjt).text = tx at *
      have hj1 : j ≤ n := by omega
      go_wp2_with fail
      refine (tokens_none _ wr (by rw [ByteArray.size_extract]; omega) HKr.out Hb5.out).mono ?_
      rintro e w4 ⟨a4, cap4, rfl, hcap4, hB4⟩
      have HB4 := Lib.hid (hB.out.trans (hB4.mono z3))
      have d1 := (hB4.cell (p := ⟨g, j * 4 + 1, none⟩) (by show g < _; omega)).trans c1
      clear hB4 c1 c3
      go_wp2_with fail
      have hE : ((at1 : Int) + (tx.length : Nat)) = ((at1 + tx.length : Nat) : Int) := by omega
      rw [hE]
      clear hE
      generalize hEE : at1 + tx.length = E at *
      have hE1 : at1 ≤ E := by omega
      clear hEE
      have hgu : decide (s.size < E) = false := by simp; omega
      have hE3 : (at1 : Int) ≤ (E : Int) := by omega
      have hE4 : (E : Int) ≤ (s.size : Int) := by omega
      have hE5 : (0 : Int) ≤ (at1 : Int) := by omega
      have hk0 : (0 : Int) ≤ (j : Int) := by omega
      have hk1 : (j : Int) < (n : Int) := by omega
      have hxx := Hb4.out
      go_quiet (fail)
      clear hxx
      go_wp2
      go_roundw
      case rel => exact ⟨j + 1, E, by omega, by omega, by go_num, rfl, Hb3, Lib.hid (below_drewN HB4.out nq)⟩
      case measure => simp [intOf]; omega
    · by_cases hjn : j = n
      · subst hjn
        have hend := Lib.hid (PlaceAt.ends (s := s) (ts := ts) (k := k) (by rw [Hn.out]; exact hP.out))
        have hnext : Hid (PlaceAt s ts (j + 1) k) := Lib.hid ⟨hk, fun h => by rw [Hn.out] at h; omega⟩
        clear hlt
        go_wp2_with fail
        refine (tokens_none _ wr (by rw [ByteArray.size_extract]; omega) HKr.out hend.out).mono ?_
        rintro e w4 ⟨a4, cap4, rfl, hcap4, hB4⟩
        have HB4 := Lib.hid (hB.out.trans (hB4.mono z3))
        clear hB4
        go_wp2
        go_roundw
        case rel => exact ⟨j + 1, k, by omega, hk, by go_num, rfl, hnext, HB4⟩
        case measure => simp [intOf]
      · have hge : n < j := by omega
        have HBr := Lib.hid (HB2.out.trans (hB.out.mono z2))
        have zr := HBr.out.size
        clear hlt hjn
        go_wp2_with fail
        refine (lives_any wr HKr.out).mono ?_
        rintro e w6 ⟨rfl, hB6⟩
        have HB6 := Lib.hid (HBr.out.trans (hB6.mono zr))
        clear hB6
        go_wp2
        go_ret
        exact ⟨rfl, HB6.out⟩

end Go.Proofs.YtndlecddgihihaaDoor
