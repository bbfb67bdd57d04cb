/- The lexer's iterator (the closure that all hands back), for every round that keeps its word. -/
import Derived.Test.YtfpcgjgkbniofaaGreatDoorRange
import Derived.Test.YtfpcgjgkbniofaaGreatDoorNext
import Derived.OwnWalkIn
import Derived.TacticsInMore
import Derived.LoopNIn
import Derived.LoopIn
namespace Go.Proofs.YtfpcgjgkbniofaaGreatDoor
open Go.RowKit Go.Shelf
attribute [local go_sem] Oper.semAt_some

/-- what a round that goes on keeps: all blocks but the loop's record l, the box bT and the collected row R -/
def Keeps (l bT : Nat) (R : Option Nat) (W W' : World) : Prop :=
  W.heap.size ≤ W'.heap.size ∧ ∀ k, k < W.heap.size → some k ≠ R → k ≠ l → k ≠ bT → W'.heap[k]? = W.heap[k]?

theorem cell_of_keep {W W' : World} {k : Nat} (h : W'.heap[k]? = W.heap[k]?) (o : Nat) : W'.cell? ⟨k, o, none⟩ = W.cell? ⟨k, o, none⟩ := World.cell?_of_block (w := W) h

/-- where the tokens from an offset on end -/
def Ends (N : Nat) (ts : List Tok) (J : List Tok → Option Nat → World → Prop) (Jx : Nat → Int → World → Prop) (l : Bs) (W : World) : Prop :=
  match lx N l with
  | .ok us => ∃ R, J (ts ++ us) R W
  | .error (k, er) => Jx k er W

theorem size_drop (s : ByteArray) (k : Nat) (h : k ≤ s.size) : s.size - (s.data.toList.drop k).length = k := by
  have hl : s.data.toList.length = s.size := by simp
  rw [List.length_drop]; omega

theorem lx_error (s : ByteArray) (k : Nat) (er : Int) (hlt : k < s.size) (hsk : sk false (s.data.toList.drop k) = s.data.toList.drop k) (hnx : nx k (s.data.toList.drop k) = .error er) :
    lx s.size (s.data.toList.drop k) = .error (k, er) := by
  have hz := size_drop s k (by omega)
  rw [lx_eq, hsk]
  rw [drop_at s k hlt] at hnx hz ⊢
  simp only []
  rw [hz, hnx]

theorem lx_ok (s : ByteArray) (k : Nat) (t : Tok) (hlt : k < s.size) (hsk : sk false (s.data.toList.drop k) = s.data.toList.drop k) (hnx : nx k (s.data.toList.drop k) = .ok t) :
    lx s.size (s.data.toList.drop k) = match lx s.size (s.data.toList.drop (endAt s k)) with
      | .error x => .error x
      | .ok ts => .ok (t :: ts) := by
  have hz := size_drop s k (by omega)
  have he : s.data.toList.drop (endAt s k) = (s.data.toList.drop k).drop (tl (s.data.toList.drop k)) := by
    unfold endAt; rw [List.drop_drop]
  rw [he, lx_eq, hsk]
  rw [drop_at s k hlt] at hnx hz ⊢
  simp only []
  rw [hz, hnx]
  rfl

theorem skAt_ge (s : ByteArray) (k : Nat) (hk : k ≤ s.size) : k ≤ skAt s false k := by
  unfold skAt
  have := sk_len false (s.data.toList.drop k)
  have h2 := size_drop s k hk
  omega

set_option maxHeartbeats 2000000 in
theorem all1_in (n : Nat) (hn : 1 ≤ n) (s : ByteArray) (hs : s.size ≤ 4611686018427387904) (l bT bs n0 : Nat)
    (J : List Tok → Option Nat → World → Prop) (Jx : Nat → Int → World → Prop)
    (hA : ∀ pre R W W', J pre R W → Below W.heap.size W W' → J pre R W')
    (hAx : ∀ k er W W', Jx k er W → Below W.heap.size W W' → Jx k er W')
    (hR : ∀ pre R W, J pre R W → (∀ r, R = some r → n0 ≤ r ∧ r < W.heap.size) ∧ n0 ≤ W.heap.size ∧ Kinds W ∧ W.cell? ⟨bs, 0, none⟩ = some (.string s))
    (hb : bs < n0 ∧ l < n0 ∧ bT < n0)
    (hY : ∀ pre R t W, pre.length < s.size → J pre R W → YieldAt Fence.wide (n - 1) Tryz.prog l #[tokAgg t.kind ⟨t.text.toArray⟩ t.n t.at_, .int .i64 0] W fun e W' =>
      e = .returned (.bool true) ∧ ∃ R', J (pre ++ [t]) R' W' ∧ Keeps l bT R W W')
    (hYe : ∀ pre R a b c (k : Nat) er W, J pre R W → (er = 2 ∨ er = 4) → YieldAt Fence.wide (n - 1) Tryz.prog l #[tokAgg a b c k, .int .i64 er] W fun e W' =>
      e = .returned (.bool false) ∧ Jx k er W')
    (W : World) (h0 : J [] none W) :
    CallsIn Fence.wide n Tryz.prog 129 #[.func (.yield l) #[] #[], .pointer (some ⟨bs, 0, none⟩)] W fun e W' => (∃ v, e = .returned v) ∧ Ends s.size [] J Jx s.data.toList W' := by
  have HA := Lib.hid hA
  have HAx := Lib.hid hAx
  have HR := Lib.hid hR
  have HY := Lib.hid hY
  have HYe := Lib.hid hYe
  clear hA hAx hR hY hYe
  obtain ⟨hr0, hz0, hk0, hc0⟩ := HR.out _ _ _ h0
  have Hk0 := Lib.hid hk0
  clear hk0 hr0
  refine callsIn_of_wp Tryz.func129 rfl trivial ?_ rfl
  simp only [Tryz.ntmps129, List.size_toArray, List.length_cons, List.length_nil, Nat.reduceAdd, Nat.reduceSub, Array.replicate_succ, Array.replicate_zero, List.push_toArray, List.append_toArray, List.nil_append, List.cons_append]
  gi_wp2_with (refine ⟨trivial, ?_⟩; gi_at_call 130; refine (callsIn_wide.2 (skip_any s 0 _ hs (by omega) Hk0.out)).mono ?_; rintro e w' ⟨rfl, rfl⟩)
  gi_loopw [3] (fun i wr => ∃ (k : Nat) (pre : List Tok) (R : Option Nat), k ≤ s.size ∧ pre.length ≤ k ∧ i = .int .i64 k ∧ Hid (J pre R wr) ∧ Hid (sk false (s.data.toList.drop k) = s.data.toList.drop k) ∧ Hid (∀ W', Ends s.size pre J Jx (s.data.toList.drop k) W' → Ends s.size [] J Jx s.data.toList W')) (fun i _ => s.size - (intOf i).toNat)
  case atStart => exact ⟨skAt s false 0, [], none, skAt_le _ _ _, by simp, rfl, Lib.hid h0, Lib.hid (by rw [skAt_drop, sk_idem]), Lib.hid (fun W' h => by rw [skAt_drop] at h; unfold Ends at h ⊢; rw [lx_skip] at h; exact h)⟩
  case round =>
    obtain ⟨k, pre, R, hk, hpk, rfl, hJ, hsk, hE⟩ := hrel
    obtain ⟨hr1, hz1, hk1, hc1⟩ := HR.out _ _ _ hJ.out
    have Hk1 := Lib.hid hk1
    have Hr1 := Lib.hid hr1
    clear hk1 hr1 hc0 hz0 h0
    by_cases hlt : k < s.size
    · gi_wp2_with fail
      refine ⟨trivial, ?_⟩
      refine (callsIn_wide.2 (next_any s k wr hs hlt Hk1.out)).mono ?_
      rintro e w1 ⟨hB, ⟨er, a, b, c, hnx, rfl, her⟩ | ⟨t, hnx, rfl⟩⟩
      · have Hnx := Lib.hid hnx
        have HB := Lib.hid hB
        clear hnx hB
        have hJ1 : Hid (J pre R (w1.alloc (.cells #[.int .i64 a, .string b, .int .i64 c, .int .i64 k] 142))) := Lib.hid (HA.out _ _ _ _ hJ.out (HB.out.alloc HB.out.size _))
        obtain ⟨fn, tmps, assign, body, hy, hR⟩ := HYe.out pre R a b c k er _ hJ1.out her
        have HRy := Lib.hid hR
        clear hR
        unfold tokAgg at hy ⊢
        gi_wp2
        refine HRy.out.mono ?_
        rintro e W3 ⟨rfl, hJx⟩
        gi_wp2
        refine bodyPost_ret (results_none rfl _ _ _) rfl ⟨⟨_, rfl⟩, hE.out _ ?_⟩
        unfold Ends
        rw [lx_error s k er hlt hsk.out Hnx.out]
        exact hJx
      · have Hnx := Lib.hid hnx
        obtain ⟨h01, h02, h03⟩ := nx_ok hnx
        have Htx := Lib.hid h02
        have HB := Lib.hid hB
        clear hnx hB h02
        have hJ1 : Hid (J pre R (w1.alloc (.cells #[.int .i64 t.kind, .string ⟨t.text.toArray⟩, .int .i64 t.n, .int .i64 k] 142))) := Lib.hid (HA.out _ _ _ _ hJ.out (HB.out.alloc HB.out.size _))
        obtain ⟨fn, tmps, assign, body, hy, hR⟩ := HY.out pre R t _ (by omega) hJ1.out
        rw [h03] at hy
        clear h03
        have HRy := Lib.hid hR
        clear hR
        have hw1 : wr.heap.size ≤ w1.heap.size := HB.out.size
        unfold tokAgg at hy ⊢
        gi_wp2
        refine HRy.out.mono ?_
        rintro e W3 ⟨rfl, R', hJ3, hK3⟩
        have HJ3 := Lib.hid hJ3
        obtain ⟨hr3, hz3, hk3, hc3⟩ := HR.out _ _ _ hJ3
        have Hk3 := Lib.hid hk3
        have HK3 := Lib.hid hK3
        clear hJ3 hr3 hk3 hK3 hy HRy
        have htl : t.text.length = tl (s.data.toList.drop k) := by
          rw [Htx.out, List.length_take]; have := tl_le (s.data.toList.drop k); omega
        have hen : k + t.text.length = endAt s k := by unfold endAt; omega
        have hle : endAt s k ≤ s.size := by
          have := tl_le (s.data.toList.drop k)
          have hl : s.data.toList.length = s.size := by simp
          rw [List.length_drop] at this
          unfold endAt; omega
        have hgt : k < endAt s k := by omega
        have hsz : t.text.length ≤ s.size := by omega
        have Hen := Lib.hid hen
        clear hen htl h01
        have hcell : W3.cell? ⟨w1.heap.size, 1, none⟩ = some (.string ⟨t.text.toArray⟩) := by
          have hne : some w1.heap.size ≠ R := by
            intro e; have := Hr1.out _ e.symm; omega
          have := HK3.out.2 w1.heap.size (by simp) hne (by omega) (by omega)
          rw [cell_of_keep this]
          simp
        gi_wp2_with fail
        refine ⟨trivial, ?_⟩
        rw [show ((k : Int) + (t.text.length : Nat)) = ((endAt s k : Nat) : Int) from by rw [← Hen.out]; omega]
        refine (callsIn_wide.2 (skip_any s (endAt s k) W3 hs hle Hk3.out)).mono ?_
        rintro e w' ⟨rfl, rfl⟩
        gi_wp2
        go_roundw
        case rel =>
          refine ⟨skAt s false (endAt s k), pre ++ [t], R', skAt_le _ _ _, by have := skAt_ge s (endAt s k) hle; simp; omega, rfl, HJ3, Lib.hid (by rw [skAt_drop, sk_idem]), Lib.hid (fun W' h => hE.out _ ?_)⟩
          rw [skAt_drop] at h
          unfold Ends at h ⊢
          rw [lx_skip] at h
          rw [lx_ok s k t hlt hsk.out Hnx.out]
          cases hx : lx s.size (s.data.toList.drop (endAt s k)) with
          | error x => rw [hx] at h; exact h
          | ok us => rw [hx] at h; simpa using h
        case measure =>
          have := skAt_ge s (endAt s k) hle
          simp [intOf]; omega
    · gi_wp2
      go_end0
      refine ⟨⟨_, rfl⟩, hE.out _ ?_⟩
      unfold Ends
      rw [drop_end s k (by omega)]
      exact ⟨R, by simpa using hJ.out⟩
end Go.Proofs.YtfpcgjgkbniofaaGreatDoor
