/- The law LexerErrors: it returns true. -/
import Derived.Test.YtndlecddgihihaaDoorErrPlain
import Derived.Test.YtndlecddgihihaaDoorHash
import Derived.Test.YtndlecddgihihaaDoorLives
namespace Go.Proofs.YtndlecddgihihaaDoor
open Go.RowKit

theorem lxs_extract (s : ByteArray) (n : Nat) (hn : n ≤ s.size) (hs : s.size ≤ 8192) : lxs (s.extract 0 n) = lx (s.data.toList.take n).length (s.data.toList.take n) := by
  have hz : (s.extract 0 n).size = n := by rw [ByteArray.size_extract]; omega
  have hd : (s.extract 0 n).data.toList = s.data.toList.take n := by
    have := extract_text s 0 n
    rw [Nat.zero_add] at this
    rw [this]; simp
  have hl : (s.data.toList.take n).length = n := by rw [List.length_take]; have : s.data.toList.length = s.size := by simp
                                                    omega
  unfold lxs
  rw [if_neg (by omega), hz, hd, hl]

theorem tokens_good (s : ByteArray) (ts : List Tok) (w : World) (hs : s.size ≤ 8192) (h : lxs s = .ok ts) (hK : Kinds w) :
    Calls Tryd.prog 18 #[.string s] w fun e w' => ∃ v, e = .returned (.tuple #[v, .int .i64 0, .int .i64 0]) ∧ Below w.heap.size w w' := by
  refine (tokens_any s w (by omega) hK).mono ?_
  rintro e w' ⟨hB, ⟨ts', v, hx', hlen, rfl, hown⟩ | ⟨k, er, hx', rfl, _⟩⟩
  · exact ⟨v, rfl, hB⟩
  · rw [h] at hx'; cases hx'

theorem tokens_bad (s : ByteArray) (k : Nat) (er : Int) (w : World) (hs : s.size ≤ 8192) (h : lxs s = .error (k, er)) (hK : Kinds w) :
    Calls Tryd.prog 18 #[.string s] w fun e w' => e = .returned (.tuple #[.slice none 0 0, .int .i64 (k : Nat), .int .i64 er]) ∧ Below w.heap.size w w' := by
  refine (tokens_any s w (by omega) hK).mono ?_
  rintro e w' ⟨hB, ⟨ts', v, hx', hlen, rfl, hown⟩ | ⟨k, er, hx', rfl, _⟩⟩
  · rw [h] at hx'; cases hx'
  · rw [h] at hx'; cases hx'; exact ⟨rfl, hB⟩

theorem clampN_in (s : ByteArray) (k : Nat) (h : k ≤ s.size) : clampN s k = k := by unfold clampN; omega

set_option maxRecDepth 100000 in
set_option maxHeartbeats 4000000 in
theorem lexerErrors_any (v : Value) (zs : List Int) (len : Nat) (w : World) (hl : IntsAt w v zs len) (hK : Kinds w) :
    Calls Tryd.prog 9 #[v] w fun e w' => e = .returned (.bool true) ∧ Below w.heap.size w w' := by
  have HK := Lib.hid hK
  have Hl := Lib.hid hl
  have hg := hK.lt
  have hc := textOf_len zs len
  clear hK hl
  go_enter Tryd.func9, Tryd.ntmps9
  go_wp2_with fail
  refine (text_any v zs len w Hl.out).mono ?_
  rintro e w1 ⟨rfl, hB1⟩
  have HB1 := Lib.hid hB1
  have z1 := hB1.size
  clear hB1
  have hcs : (⟨(textOf zs len).toArray⟩ : ByteArray).size ≤ 408 := hc
  generalize (⟨(textOf zs len).toArray⟩ : ByteArray) = s at *
  clear hc
  go_wp2_with fail
  refine (tokens_any s w1 (by omega) (HK.out.below HB1.out hg)).mono ?_
  rintro e w2 ⟨hB2, ⟨ts, v2, hx, hlen, rfl, hown⟩ | ⟨k, er, hx, rfl, her⟩⟩
  · have HB2 := Lib.hid (HB1.out.trans (hB2.mono z1))
    have z2 := HB2.out.size
    clear hB2 hown hx hlen
    go_wp2_with fail
    refine (lives_any w2 (HK.out.below HB2.out hg)).mono ?_
    rintro e w3 ⟨rfl, hB3⟩
    have HB3 := Lib.hid (HB2.out.trans (hB3.mono z2))
    clear hB3
    go_wp2
    go_ret
    exact ⟨rfl, HB3.out⟩
  · have HB2 := Lib.hid (HB1.out.trans (hB2.mono z1))
    have z2 := HB2.out.size
    have hx' : lx s.data.toList.length s.data.toList = .error (k, er) := by
      have := hx
      unfold lxs at this
      rw [if_neg (by omega)] at this
      have hsl : s.data.toList.length = s.size := by simp
      rw [hsl]; exact this
    obtain ⟨hk, us, hus⟩ := cut_ok _ k er hx'
    have hsl : s.data.toList.length = s.size := by simp
    rw [hsl] at hk
    have Hx := Lib.hid hx'
    have Hus := Lib.hid ((lxs_extract s k (by omega) (by omega)).trans hus)
    have her0 : (er == 0) = false := by rcases her with rfl | rfl <;> rfl
    have hco := coN_le s k
    have hln := lnN_le s k
    have hst := line_start s k
    have Hst := Lib.hid hst
    clear hB2 hx hx' hus hsl her hst
    have Hpos := Lib.hid (fun w => pos_any s k w (by omega) (by omega) (by omega))
    rw [clampN_in s k (by omega)] at Hpos
    have Hpos2 := Lib.hid (fun w => pos_any s ((k + 1 - coN s k : Nat) : Int) w (by omega) (by omega) (by omega))
    rw [clampN_in s (k + 1 - coN s k) (by omega), Hst.out.1, Hst.out.2] at Hpos2
    clear Hst
    generalize lnN s k = L at *
    generalize coN s k = C at *
    have hge : decide (s.size ≤ k) = false := by simp; omega
    have hk0 : decide ((k : Int) < 0) = false := by simp
    go_wp2_with fail
    refine (Hpos.out w2).mono ?_
    rintro e w3 ⟨rfl, rfl⟩
    clear hge hk0
    go_wp2_with fail
    go_loop [9] (fun i => ∃ E : Nat, k ≤ E ∧ E ≤ s.size ∧ i = .int .i64 E) (fun i => s.size - (intOf i).toNat)
    case atStart => exact ⟨k, Nat.le_refl _, by omega, rfl⟩
    case round =>
      obtain ⟨E, hkE, hE, rfl⟩ := hrel
      by_cases hgo : ∃ h : E < s.size, (s[E].toNat : Int) ≠ 10
      · obtain ⟨hlt, hne⟩ := hgo
        have hne' : (((s[E].toNat : Nat) : Int) != 10) = true := by simpa using hne
        clear hne
        go_wp2_with fail
        go_round
        case rel => exact ⟨E + 1, by omega, by omega, by go_num⟩
        case measure => simp [intOf]; omega
      · have hcut : lx (s.data.toList.take E).length (s.data.toList.take E) = .error (k, er) := by
          rcases Nat.lt_or_ge E s.size with hlt | hge
          · have h10 : (s[E].toNat : Int) = 10 := Classical.byContradiction fun h => hgo ⟨hlt, h⟩
            have hsl : s.data.toList.length = s.size := by simp
            refine cut_same _ k er Hx.out E hkE (by omega) ?_
            have hb : s.data.toList[E]'(by omega) = s[E] := by simp [ByteArray.getElem_eq_getElem_data]
            rw [hb]
            apply UInt8.toNat_inj.1
            have : s[E].toNat = 10 := by omega
            rw [this]; rfl
          · have hsl : s.data.toList.length = s.size := by simp
            rw [List.take_of_length_le (by omega)]; exact Hx.out
        have Hcut := Lib.hid ((lxs_extract s E hE (by omega)).trans hcut)
        clear hcut
        have Hgo := Lib.hid hgo
        clear hgo
        have hz1 : (s.extract 0 k).size ≤ 8192 := by rw [ByteArray.size_extract]; omega
        have hz2 : (s.extract 0 E).size ≤ 8192 := by rw [ByteArray.size_extract]; omega
        rcases Nat.lt_or_ge E s.size with hlt | hge
        · have h10 : (((s[E].toNat : Nat) : Int) != 10) = false := by
            have : (s[E].toNat : Int) = 10 := Classical.byContradiction fun h => Hgo.out ⟨hlt, h⟩
            simp [this]
          go_wp2_with fail
          clear h10
          refine (tokens_good (s.extract 0 k) us w2 hz1 Hus.out (HK.out.below HB2.out hg)).mono ?_
          rintro e w4 ⟨v4, rfl, hB4⟩
          have HB4 := Lib.hid (HB2.out.trans (hB4.mono z2))
          have z4 := HB4.out.size
          clear hB4
          go_wp2_with fail
          refine (tokens_bad (s.extract 0 E) k er w4 hz2 Hcut.out (HK.out.below HB4.out hg)).mono ?_
          rintro e w5 ⟨rfl, hB5⟩
          have HB5 := Lib.hid (HB4.out.trans (hB5.mono z4))
          have z5 := HB5.out.size
          clear hB5
          have ee : (er != er) = false := by simp
          have kk : (((k : Nat) : Int) != (k : Int)) = false := by simp
          have hb0 : decide ((k : Int) - (C : Int) + 1 < 0) = false := by simp; omega
          have hL0 : decide ((L : Int) < 1) = false := by simp; omega
          go_wp2_with fail
          clear ee kk hb0 hL0
          have hbe : (k : Int) - (C : Int) + 1 = ((k + 1 - C : Nat) : Int) := by omega
          rw [hbe]
          clear hbe
          refine (Hpos2.out w5).mono ?_
          rintro e w6 ⟨rfl, rfl⟩
          go_wp2_with fail
          refine (sum_any w5.heap.size 1 (L : Int) _ (by simp) (by omega) (by omega) (by rw [cell_of_row _ w5.heap.size 0 _ _ (0, 0) (World.alloc_heap_new w5 _)]; rfl)).mono ?_
          rintro e w7 ⟨rfl, hB7⟩
          have hsz5 : (w5.alloc (.cells #[.int .i64 (L : Int)] 3)).heap.size = w5.heap.size + 1 := by simp
          have HB7 := Lib.hid ((HB5.out.alloc z5 (.cells #[.int .i64 (L : Int)] 3)).trans (hB7.mono (by omega)))
          have z7 := HB7.out.size
          clear hB7 hsz5
          go_wp2_with fail
          refine (sum_any w7.heap.size 1 (L : Int) _ (by simp) (by omega) (by omega) (by rw [cell_of_row _ w7.heap.size 0 _ _ (0, 0) (World.alloc_heap_new w7 _)]; rfl)).mono ?_
          rintro e w8 ⟨rfl, hB8⟩
          have hsz7 : (w7.alloc (.cells #[.int .i64 (L : Int)] 3)).heap.size = w7.heap.size + 1 := by simp
          have HB8 := Lib.hid ((HB7.out.alloc z7 (.cells #[.int .i64 (L : Int)] 3)).trans (hB8.mono (by omega)))
          have z8 := HB8.out.size
          clear hB8 hsz7
          go_wp2_with fail
          refine (lives_any w8 (HK.out.below HB8.out hg)).mono ?_
          rintro e w9 ⟨rfl, hB9⟩
          have HB9 := Lib.hid (HB8.out.trans (hB9.mono z8))
          clear hB9
          go_wp2
          go_ret
          exact ⟨rfl, HB9.out⟩
        · go_wp2_with fail
          refine (tokens_good (s.extract 0 k) us w2 hz1 Hus.out (HK.out.below HB2.out hg)).mono ?_
          rintro e w4 ⟨v4, rfl, hB4⟩
          have HB4 := Lib.hid (HB2.out.trans (hB4.mono z2))
          have z4 := HB4.out.size
          clear hB4
          go_wp2_with fail
          refine (tokens_bad (s.extract 0 E) k er w4 hz2 Hcut.out (HK.out.below HB4.out hg)).mono ?_
          rintro e w5 ⟨rfl, hB5⟩
          have HB5 := Lib.hid (HB4.out.trans (hB5.mono z4))
          have z5 := HB5.out.size
          clear hB5
          have ee : (er != er) = false := by simp
          have kk : (((k : Nat) : Int) != (k : Int)) = false := by simp
          have hb0 : decide ((k : Int) - (C : Int) + 1 < 0) = false := by simp; omega
          have hL0 : decide ((L : Int) < 1) = false := by simp; omega
          go_wp2_with fail
          clear ee kk hb0 hL0
          have hbe : (k : Int) - (C : Int) + 1 = ((k + 1 - C : Nat) : Int) := by omega
          rw [hbe]
          clear hbe
          refine (Hpos2.out w5).mono ?_
          rintro e w6 ⟨rfl, rfl⟩
          go_wp2_with fail
          refine (sum_any w5.heap.size 1 (L : Int) _ (by simp) (by omega) (by omega) (by rw [cell_of_row _ w5.heap.size 0 _ _ (0, 0) (World.alloc_heap_new w5 _)]; rfl)).mono ?_
          rintro e w7 ⟨rfl, hB7⟩
          have hsz5 : (w5.alloc (.cells #[.int .i64 (L : Int)] 3)).heap.size = w5.heap.size + 1 := by simp
          have HB7 := Lib.hid ((HB5.out.alloc z5 (.cells #[.int .i64 (L : Int)] 3)).trans (hB7.mono (by omega)))
          have z7 := HB7.out.size
          clear hB7 hsz5
          go_wp2_with fail
          refine (sum_any w7.heap.size 1 (L : Int) _ (by simp) (by omega) (by omega) (by rw [cell_of_row _ w7.heap.size 0 _ _ (0, 0) (World.alloc_heap_new w7 _)]; rfl)).mono ?_
          rintro e w8 ⟨rfl, hB8⟩
          have hsz7 : (w7.alloc (.cells #[.int .i64 (L : Int)] 3)).heap.size = w7.heap.size + 1 := by simp
          have HB8 := Lib.hid ((HB7.out.alloc z7 (.cells #[.int .i64 (L : Int)] 3)).trans (hB8.mono (by omega)))
          have z8 := HB8.out.size
          clear hB8 hsz7
          go_wp2_with fail
          refine (lives_any w8 (HK.out.below HB8.out hg)).mono ?_
          rintro e w9 ⟨rfl, hB9⟩
          have HB9 := Lib.hid (HB8.out.trans (hB9.mono z8))
          clear hB9
          go_wp2
          go_ret
          exact ⟨rfl, HB9.out⟩

end Go.Proofs.YtndlecddgihihaaDoor
