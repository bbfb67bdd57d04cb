/- The law's own helpers: same, tokens, agrees. -/
import Derived.Test.YtndlecddgihihaaDoorRefTokens
import Derived.Deep.QuietTactic
import Derived.BigQuiet
import Derived.Deep.RegionHeld3
import Derived.Deep.AppendLies
namespace Go.Proofs.YtndlecddgihihaaDoor
open Go.RowKit

/-- a slice of tokens, as it is read: nil, or n tokens in a block -/
def TokAt (w : World) (v : Value) (ts : List Tok) : Prop :=
  (v = .slice none 0 0 ∧ ts = []) ∨ ∃ g cap, v = .slice (some ⟨g, 0, none⟩) ts.length cap ∧ ts.length ≤ cap ∧ cap ≤ maxLen ∧ ∀ j u, (cellsOf ts)[j]? = some u → w.cell? ⟨g, j, none⟩ = some u

theorem TokAt.of_owns {w : World} {base e : Nat} {v : Value} {ts : List Tok} (h : w.ownsRow base e 4 v ts.length (cellsOf ts)) : TokAt w v ts := by
  rcases h.2 with ⟨hv, hn⟩ | ⟨g, cap, cur, hv, hb, hg, hn, hc, hs, ht⟩
  · exact .inl ⟨hv, List.length_eq_zero_iff.1 hn⟩
  · refine .inr ⟨g, cap, hv, hn, hc, fun j u hu => ?_⟩
    have := h.cells (g := g) (by rw [hv]; rfl) j u hu
    have hadd : (⟨g, 0, none⟩ : Addr).add j = ⟨g, j, none⟩ := by unfold Addr.add; split <;> simp_all
    rw [hadd] at this
    exact this

theorem cellsOf_get (ts : List Tok) (i : Nat) (h : i < ts.length) :
    (cellsOf ts)[i * 4]? = some (.int .i64 ts[i].kind) ∧ (cellsOf ts)[i * 4 + 1]? = some (.string ⟨ts[i].text.toArray⟩) ∧ (cellsOf ts)[i * 4 + 2]? = some (.int .i64 ts[i].n) ∧ (cellsOf ts)[i * 4 + 3]? = some (.int .i64 ts[i].at_) := by
  induction ts generalizing i with
  | nil => simp at h
  | cons t ts ih =>
    have hc : cellsOf (t :: ts) = tokCells t ++ cellsOf ts := by simp [cellsOf]
    rw [hc]
    cases i with
    | zero => exact ⟨rfl, rfl, rfl, rfl⟩
    | succ i =>
      have hl : (tokCells t).length = 4 := rfl
      have := ih i (by simpa using h)
      rw [List.getElem?_append_right (by omega), List.getElem?_append_right (by omega), List.getElem?_append_right (by omega), List.getElem?_append_right (by omega), hl]
      have e0 : (i + 1) * 4 - 4 = i * 4 := by omega
      have e1 : (i + 1) * 4 + 1 - 4 = i * 4 + 1 := by omega
      have e2 : (i + 1) * 4 + 2 - 4 = i * 4 + 2 := by omega
      have e3 : (i + 1) * 4 + 3 - 4 = i * 4 + 3 := by omega
      rw [e0, e1, e2, e3]
      exact this

/-- the same tokens, with their offsets or without them -/
def SameToks (off : Bool) (xs ys : List Tok) : Prop := xs.length = ys.length ∧ ∀ i (h : i < xs.length) (h' : i < ys.length), xs[i].kind = ys[i].kind ∧ xs[i].text = ys[i].text ∧ xs[i].n = ys[i].n ∧ (off = true → xs[i].at_ = ys[i].at_)

theorem same_zero (off : Bool) (a b : Option Addr) (c c' : Nat) (w : World) (_hc : c ≤ maxLen) (_hc' : c' ≤ maxLen) :
    Calls Tryd.prog 20 #[.slice a 0 c, .slice b 0 c', .bool off] w fun e w' => e = .returned (.bool true) ∧ ∃ n, w' = w.drewN n := by
  go_enter Tryd.func20, Tryd.ntmps20
  go_wp2
  go_loop [7] (fun i => i = .int .i64 0) (fun _ => 0)
  case atStart => exact rfl
  case round =>
    subst hrel
    go_wp2
    go_ret
    exact ⟨rfl, 0, rfl⟩

set_option maxHeartbeats 2000000 in
theorem same_any (off : Bool) (va vb : Value) (xs ys : List Tok) (w : World) (ha : TokAt w va xs) (hb : TokAt w vb ys) (hlen : xs.length ≤ 4611686018427387904) (hS : SameToks off xs ys) :
    Calls Tryd.prog 20 #[va, vb, .bool off] w fun e w' => e = .returned (.bool true) ∧ ∃ n, w' = w.drewN n := by
  have HS := Lib.hid hS
  have hl := hS.1
  clear hS
  by_cases hz : xs.length = 0
  · obtain ⟨a, c, hva, hc⟩ : ∃ a c, va = .slice a 0 c ∧ c ≤ maxLen := by
      rcases ha with ⟨rfl, rfl⟩ | ⟨g, cap, rfl, hc1, hc2, _⟩
      · exact ⟨none, 0, rfl, by unfold maxLen; omega⟩
      · exact ⟨_, cap, by rw [hz], hc2⟩
    obtain ⟨b, c', hvb, hc'⟩ : ∃ a c, vb = .slice a 0 c ∧ c ≤ maxLen := by
      rcases hb with ⟨rfl, rfl⟩ | ⟨g, cap, rfl, hc1, hc2, _⟩
      · exact ⟨none, 0, rfl, by unfold maxLen; omega⟩
      · exact ⟨_, cap, by rw [← hl, hz], hc2⟩
    rw [hva, hvb]
    exact same_zero off a b c c' w hc hc'
  · rcases ha with ⟨rfl, rfl⟩ | ⟨g, cap, rfl, hc1, hc2, hcells⟩
    · exact absurd rfl hz
    rcases hb with ⟨rfl, rfl⟩ | ⟨g', cap', rfl, hc1', hc2', hcells'⟩
    · exact absurd hl hz
    have Hc := Lib.hid hcells
    have Hc' := Lib.hid hcells'
    have hcb : cap ≤ 9223372036854775807 := by unfold maxLen at hc2; omega
    have hcb' : cap' ≤ 9223372036854775807 := by unfold maxLen at hc2'; omega
    clear hcells hcells' hc2 hc2' hz
    rw [← hl] at hc1' ⊢
    have Hl := Lib.hid hl
    clear hl
    obtain ⟨n, hn⟩ : ∃ n, xs.length = n := ⟨_, rfl⟩
    have Hn := Lib.hid hn
    rw [hn] at hc1 hc1' hlen ⊢
    clear hn
    go_enter Tryd.func20, Tryd.ntmps20
    go_wp2
    go_loopw [7] (fun i wr => ∃ (k d : Nat), k ≤ n ∧ i = .int .i64 k ∧ Hid (wr = w.drewN d)) (fun i _ => n - (intOf i).toNat)
    case atStart => exact ⟨0, 0, by omega, rfl, rfl⟩
    case round =>
      obtain ⟨k, d, hk, rfl, hw⟩ := hrel
      have hw' := hw.out
      subst hw'
      clear hw
      by_cases hlt : k < n
      · have hxs : k < xs.length := by rw [Hn.out]; exact hlt
        have g0 := cellsOf_get xs k hxs
        have hys : k < ys.length := by rw [← Hl.out, Hn.out]; exact hlt
        have g1 := cellsOf_get ys k hys
        have s0 := HS.out.2 k hxs hys
        have a0 := Hc.out _ _ g0.1
        have a1 := Hc.out _ _ g0.2.1
        have a2 := Hc.out _ _ g0.2.2.1
        have a3 := Hc.out _ _ g0.2.2.2
        have b0 := Hc'.out _ _ g1.1
        have b1 := Hc'.out _ _ g1.2.1
        have b2 := Hc'.out _ _ g1.2.2.1
        have b3 := Hc'.out _ _ g1.2.2.2
        rw [← s0.1] at b0
        rw [← s0.2.1] at b1
        rw [← s0.2.2.1] at b2
        cases off with
        | true =>
            rw [← s0.2.2.2 rfl] at b3
            clear s0 g0 g1
            generalize (xs[k]'hxs).kind = c0 at *
            generalize (xs[k]'hxs).text = c1 at *
            generalize (xs[k]'hxs).n = c2 at *
            generalize (xs[k]'hxs).at_ = c3 at *
            go_wp2
            go_quiet (fail)
            go_wp2
            go_roundw
            case rel => exact ⟨k + 1, _, by omega, by go_num, Lib.hid rfl⟩
            case measure => simp [intOf]; omega
        | false =>
            clear s0 g0 g1
            generalize (xs[k]'hxs).kind = c0 at *
            generalize (xs[k]'hxs).text = c1 at *
            generalize (xs[k]'hxs).n = c2 at *
            generalize (xs[k]'hxs).at_ = c3 at *
            go_wp2
            go_quiet (fail)
            go_wp2
            go_roundw
            case rel => exact ⟨k + 1, _, by omega, by go_num, Lib.hid rfl⟩
            case measure => simp [intOf]; omega
      · go_wp2
        go_ret
        exact ⟨rfl, d, rfl⟩

set_option maxHeartbeats 2000000 in
theorem ltokens_some (g cap : Nat) (ts : List Tok) (n : Nat) (hn : Hid (ts.length = n)) (w : World) (hc1 : n ≤ cap) (_hc2 : cap ≤ 9223372036854775807) (hlen : n ≤ 1048576) (hg : g < w.heap.size)
    (Hc : Hid (∀ j u, (cellsOf ts)[j]? = some u → w.cell? ⟨g, j, none⟩ = some u)) :
    Calls Tryd.prog 21 #[.slice (some ⟨g, 0, none⟩) n cap] w fun e w' => ∃ v, e = .returned v ∧ w'.ownsRow w.heap.size 58 4 v ts.length (cellsOf ts) ∧ Below w.heap.size w w' := by
  obtain ⟨i0, hi, hz0, hz1, hz2⟩ := info_parts infoRTok
  have Hi := Lib.hid hi
  have Hz0 := Lib.hid hz0
  have Hz1 := Lib.hid hz1
  have Hz2 := Lib.hid hz2
  clear hi hz0 hz1 hz2
  go_enter Tryd.func21, Tryd.ntmps21
  go_wp2
  go_loopw [3, 4] (fun v i wr => ∃ (k : Nat), k ≤ n ∧ i = .int .i64 k ∧ Hid (wr.ownsRow w.heap.size 58 4 v k (cellsOf (ts.take k))) ∧ Hid (Below w.heap.size w wr)) (fun _ i _ => n - (intOf i).toNat)
  case atStart => exact ⟨0, by omega, rfl, Lib.hid (World.ownsRow_nil _ _ _ _), Lib.hid (Below.refl _ _)⟩
  case round =>
    obtain ⟨k, hk, rfl, hown, hB⟩ := hrel
    by_cases hlt : k < n
    · have hxs : k < ts.length := by rw [hn.out]; exact hlt
      have g0 := cellsOf_get ts k hxs
      have a0 := (hB.out.cell (p := ⟨g, k * 4, none⟩) hg).trans (Hc.out _ _ g0.1)
      have a1 := (hB.out.cell (p := ⟨g, k * 4 + 1, none⟩) hg).trans (Hc.out _ _ g0.2.1)
      have a2 := (hB.out.cell (p := ⟨g, k * 4 + 2, none⟩) hg).trans (Hc.out _ _ g0.2.2.1)
      have a3 := (hB.out.cell (p := ⟨g, k * 4 + 3, none⟩) hg).trans (Hc.out _ _ g0.2.2.2)
      have hwr : w.heap.size ≤ wr.heap.size := hB.out.size
      have hsn : Hid (cellsOf (ts.take (k + 1)) = cellsOf (ts.take k) ++ tokCells (ts[k]'hxs)) := Lib.hid (by rw [List.take_succ_eq_append_getElem hxs, cellsOf_snoc])
      unfold tokCells at hsn
      clear g0
      generalize (ts[k]'hxs).kind = c0 at *
      generalize (ts[k]'hxs).text = c1 at *
      generalize (ts[k]'hxs).n = c2 at *
      generalize (ts[k]'hxs).at_ = c3 at *
      have hk0 : (0 : Int) ≤ (k : Int) := Int.natCast_nonneg _
      have hk1 : (k : Int) < (n : Int) := by omega
      have ag : u3.ownBlock ≠ some g := (ownBlock_ge hown.out hg).symm
      have lg : g < wr.heap.size := by omega
      go_wp2_with fail
      go_region_held3 (fun w' => w'.cell? ⟨g, k * 4, none⟩ = some (.int .i64 c0) ∧ w'.cell? ⟨g, k * 4 + 1, none⟩ = some (.string ⟨c1.toArray⟩) ∧ w'.cell? ⟨g, k * 4 + 2, none⟩ = some (.int .i64 c2) ∧ w'.cell? ⟨g, k * 4 + 3, none⟩ = some (.int .i64 c3))
        (first
          | go_keep
          | (go_split_ands
             refine ⟨?_, ?_, ?_, ?_⟩
             · (rw [hgrow.cell_far _ (by simp; omega) (Ne.symm ag)]; assumption)
             · (rw [hgrow.cell_far _ (by simp; omega) (Ne.symm ag)]; assumption)
             · (rw [hgrow.cell_far _ (by simp; omega) (Ne.symm ag)]; assumption)
             · (rw [hgrow.cell_far _ (by simp; omega) (Ne.symm ag)]; assumption)))
        ((refine step_append_lies _ (by rfl) _ _ _ (by rfl) w.heap.size 58 i0 _ 4 40 Tryd.underlying45 Hi.out Hz0.out Hz1.out Hz2.out rfl (by omega) u3 k (cellsOf (ts.take k)) (by rfl) ((hown.out.alloc _).drew)
            ⟨wr.heap.size, 0, none⟩ 1 1 [.int .i64 c0, .string ⟨c1.toArray⟩, .int .i64 c2, .int .i64 c3] (by rfl) (by rfl) (World.news_of_block (cs := #[.int .i64 c0, .string ⟨c1.toArray⟩, .int .i64 c2, .int .i64 c3]) (t := 58) (fr := (0, 0)) (heap_alloc_new wr _)) (by simp [Value.oneCell'])
            (by omega) (by unfold maxLen; omega) (by omega) (by simp; omega) (wr.heap.size + 1) (by simp) ?_; intro gg cap' w1 hown1 hgrow hat hlt'))
      go_wp2
      go_roundw
      case rel =>
        refine ⟨k + 1, by omega, by go_num, Lib.hid (by rw [hsn.out]; exact hown1), Lib.hid ?_⟩
        exact ((hB.out.alloc hwr _).drew).grown hgrow (by simp; omega) (fun r e => (hown.out.lt r e).1)
      case measure => simp [intOf]; omega
    · obtain rfl : k = n := by omega
      go_wp2
      go_ret
      refine ⟨_, rfl, ?_, hB.out⟩
      have := hown.out
      rw [← hn.out, List.take_length] at this
      exact this

theorem ltokens_nil (w : World) :
    Calls Tryd.prog 21 #[.slice none 0 0] w fun e w' => e = .returned (.slice none 0 0) ∧ w = w' := by
  go_enter Tryd.func21, Tryd.ntmps21
  go_wp2
  go_loop [3, 4] (fun v i => v = .slice none 0 0 ∧ i = .int .i64 0) (fun _ _ => 0)
  case atStart => exact ⟨rfl, rfl⟩
  case round =>
    obtain ⟨rfl, rfl⟩ := hrel
    go_wp2
    go_ret
    exact ⟨rfl, rfl⟩

theorem ltokens_any (v : Value) (ts : List Tok) (w : World) (base e : Nat) (h : w.ownsRow base e 4 v ts.length (cellsOf ts)) (hlen : ts.length ≤ 1048576) :
    Calls Tryd.prog 21 #[v] w fun e w' => ∃ v, e = .returned v ∧ w'.ownsRow w.heap.size 58 4 v ts.length (cellsOf ts) ∧ Below w.heap.size w w' := by
  have ht := TokAt.of_owns h
  have hlt := h.lt
  rcases ht with ⟨rfl, rfl⟩ | ⟨g, cap, rfl, hc1, hc2, hcells⟩
  · refine (ltokens_nil w).mono ?_
    rintro e w' ⟨rfl, rfl⟩
    exact ⟨_, rfl, World.ownsRow_nil _ _ _ _, Below.refl _ _⟩
  · exact ltokens_some g cap ts ts.length rfl w hc1 (by unfold maxLen at hc2; omega) hlen (hlt g rfl).2 hcells

theorem SameToks.refl (off : Bool) (xs : List Tok) : SameToks off xs xs := ⟨rfl, fun _ _ _ => ⟨rfl, rfl, rfl, fun _ => rfl⟩⟩

set_option maxHeartbeats 1000000 in
theorem agrees_any (s : ByteArray) (w : World) (hs : s.size ≤ 1048576) (hK : Kinds w) :
    Calls Tryd.prog 10 #[.string s] w fun e w' => e = .returned (.bool true) ∧ Below w.heap.size w w' := by
  have HK := Lib.hid hK
  clear hK
  go_enter Tryd.func10, Tryd.ntmps10
  go_wp2_with fail
  refine (tokens_any s w (by omega) HK.out).mono ?_
  rintro e w1 ⟨hB1, ⟨ts, v, hx, hlen, rfl, hown1⟩ | ⟨k, er, hx, rfl, her⟩⟩
  · have HB1 := Lib.hid hB1
    have Hown1 := Lib.hid hown1
    have Hx := Lib.hid hx
    clear hB1 hown1 hx
    go_wp2_with fail
    refine (rtokens_any s w1 (by omega)).mono ?_
    rintro e w2 ⟨hB2, ⟨ts', v2, hx', hlen', rfl, hown2⟩ | ⟨k, er, hx', rfl, her⟩⟩
    · obtain rfl : ts = ts' := by rw [Hx.out] at hx'; cases hx'; rfl
      have HB2 := Lib.hid hB2
      have Hown2 := Lib.hid hown2
      clear hB2 hown2 hx'
      go_wp2_with fail
      refine (ltokens_any v ts w2 _ _ (ownsRow_below Hown1.out HB2.out) (by omega)).mono ?_
      rintro e w3 ⟨v3, rfl, hown3, hB3⟩
      have HB3 := Lib.hid hB3
      have Hown3 := Lib.hid hown3
      clear hB3 hown3
      go_wp2_with fail
      refine (same_any true v3 v2 ts ts w3 (TokAt.of_owns Hown3.out) (TokAt.of_owns (ownsRow_below Hown2.out HB3.out)) (by omega) (SameToks.refl _ _)).mono ?_
      rintro e w4 ⟨rfl, d, rfl⟩
      go_wp2
      go_ret
      have h1 := HB1.out.size
      have h2 := HB2.out.size
      exact ⟨rfl, below_drewN ((HB1.out.trans (HB2.out.mono h1)).trans (HB3.out.mono (by omega))) d⟩
    · rw [Hx.out] at hx'; cases hx'
  · have HB1 := Lib.hid hB1
    have Hx := Lib.hid hx
    clear hB1 hx
    go_wp2_with fail
    refine (rtokens_any s w1 (by omega)).mono ?_
    rintro e w2 ⟨hB2, ⟨ts', v2, hx', hlen', rfl, hown2⟩ | ⟨k', er', hx', rfl, her'⟩⟩
    · rw [Hx.out] at hx'; cases hx'
    · obtain ⟨rfl, rfl⟩ : k = k' ∧ er = er' := by rw [Hx.out] at hx'; cases hx'; exact ⟨rfl, rfl⟩
      have HB2 := Lib.hid hB2
      clear hB2 hx' her her'
      go_wp2_with fail
      refine (ltokens_nil w2).mono ?_
      rintro e w3 ⟨rfl, rfl⟩
      go_wp2_with fail
      refine (same_any true _ _ [] [] w2 (.inl ⟨rfl, rfl⟩) (.inl ⟨rfl, rfl⟩) (by simp) (SameToks.refl _ _)).mono ?_
      rintro e w4 ⟨rfl, d, rfl⟩
      go_wp2
      go_ret
      have h1 := HB1.out.size
      exact ⟨rfl, below_drewN (HB1.out.trans (HB2.out.mono h1)) d⟩

end Go.Proofs.YtndlecddgihihaaDoor
