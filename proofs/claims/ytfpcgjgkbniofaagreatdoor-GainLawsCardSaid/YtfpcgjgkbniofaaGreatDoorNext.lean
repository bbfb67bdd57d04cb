/- The walk of the lexer's next. -/
import Derived.Test.YtfpcgjgkbniofaaGreatDoorLexWalks
namespace Go.Proofs.YtfpcgjgkbniofaaGreatDoor
open Go.RowKit

def tokAgg (a : Int) (b : ByteArray) (c d : Int) : Value := .agg #[.int .i64 a, .string b, .int .i64 c, .int .i64 d]

def NextPost (s : ByteArray) (k : Nat) (w : World) (e : Ending) (w' : World) : Prop :=
  Below w.heap.size w w' ∧ ((∃ er a b c, nx k (s.data.toList.drop k) = .error er ∧ e = .returned (.tuple #[tokAgg a b c k, .int .i64 er]) ∧ (er = 2 ∨ er = 4)) ∨
    (∃ t, nx k (s.data.toList.drop k) = .ok t ∧ e = .returned (.tuple #[tokAgg t.kind ⟨t.text.toArray⟩ t.n k, .int .i64 0])))

theorem extract_text (s : ByteArray) (k n : Nat) : s.extract k (k + n) = ⟨((s.data.toList.drop k).take n).toArray⟩ := by
  apply ByteArray.ext
  rw [ByteArray.data_extract]
  apply Array.ext'
  rw [Array.toList_extract, List.extract_eq_take_drop]
  simp

theorem tl_end (s : ByteArray) (k : Nat) : tl (s.data.toList.drop k) = endAt s k - k := by unfold endAt; omega

theorem nx_symbol (s : ByteArray) (k : Nat) (hk : k < s.size) (h4 : cl s[k] = 4) : nx k (s.data.toList.drop k) = .ok ⟨2, (s.data.toList.drop k).take 1, 0, k⟩ := by
  have h1 : tl (s.data.toList.drop k) = 1 := by rw [tl_end, endAt_symbol s k hk h4]; omega
  rw [drop_at s k hk] at h1 ⊢
  unfold nx
  simp only [h1, h4]
  rfl

set_option maxHeartbeats 1000000 in
theorem next_symbol (s : ByteArray) (k : Nat) (w : World) (hs : s.size ≤ 4611686018427387904) (hk : k < s.size) (hK : Kinds w) (h4 : Hid (cl s[k] = 4)) :
    Calls Tryz.prog 131 #[.string s, .int .i64 k] w (NextPost s k w) := by
  have hkd : kdAt s k = 7 := by rw [kdAt_in s k hk]; exact (kd_symbol _).2 h4.out
  have Hkd := Lib.hid hkd
  have HK := Lib.hid hK
  have hE := Lib.hid (endAt_symbol s k hk h4.out)
  clear hkd hK
  go_enter Tryz.func131, Tryz.ntmps131
  go_wp2_with (go_at_call 134; refine (kindAt_any _ _ _ hs (by omega) (HK.out.below (B := w.heap.size) (((Below.refl _ _).alloc (Nat.le_refl _) _).alloc (by simp) _) HK.out.lt)).mono ?_; rw [Hkd.out]; rintro e w' ⟨rfl, rfl⟩)
  refine bodyPost_ret (v := .tuple #[tokAgg 2 (s.extract k (k + 1)) 0 k, .int .i64 0]) (by simp [results, Tryz.results131, go_sem, tokAgg]) rfl ⟨((Below.refl _ _).alloc (Nat.le_refl _) _).alloc (by simp) _, .inr ⟨_, nx_symbol s k hk h4.out, ?_⟩⟩
  rw [extract_text]

/-- kinds of the letters of a word -/
theorem kd_wb (s : ByteArray) (k : Nat) (h : k < s.size) : (kdAt s k = 3 ∨ kdAt s k = 4 ∨ kdAt s k = 5) ↔ wb s[k] = true := by
  rw [kdAt_in s k h, kd_letter, kd_digit, kd_under]
  have := cl_range s[k]
  simp only [wb, Bool.and_eq_true, decide_eq_true_eq]
  omega
theorem kd_db (s : ByteArray) (k : Nat) (h : k < s.size) : kdAt s k = 4 ↔ db s[k] = true := by
  rw [kdAt_in s k h, kd_digit]
  simp [db]

theorem setCell_drewN (w : World) (n : Nat) (a : Addr) (v : Value) : (w.drewN n).setCell a v = (w.setCell a v).drewN n := rfl
theorem alloc_drewN (w : World) (n : Nat) (o : Obj) : (w.drewN n).alloc o = (w.alloc o).drewN n := rfl
attribute [local go_sem] setCell_drewN alloc_drewN

/-- the value of the digits from k to q -/
def dvAt (s : ByteArray) (k q : Nat) : Nat := dv 0 ((s.data.toList.drop k).take (q - k))
theorem dvAt_self (s : ByteArray) (k : Nat) : dvAt s k k = 0 := by unfold dvAt; rw [Nat.sub_self]; rfl
theorem dvAt_step (s : ByteArray) (k q : Nat) (h : k ≤ q) (hq : q < s.size) : dvAt s k (q + 1) = 10 * dvAt s k q + dg s[q] := by
  unfold dvAt
  have h1 : q + 1 - k = (q - k) + 1 := by omega
  have hl : s.data.toList.length = s.size := by simp
  rw [h1, List.take_succ_eq_append_getElem (by rw [List.length_drop]; omega), dv_snoc]
  congr 2
  rw [List.getElem_drop]
  have : k + (q - k) = q := by omega
  simp only [this]; rfl

theorem run_all (p : UInt8 → Bool) (s : ByteArray) (q : Nat) (hq : q < s.size) : ∀ (d k : Nat), k + d = q → q < run p s k → p s[q] = true
  | 0, k, hd, h => by
    obtain rfl : k = q := by omega
    cases hp : p s[k] with
    | true => rfl
    | false => rw [run_stop p s k hq hp] at h; omega
  | d + 1, k, hd, h => by
    cases hp : p (s[k]'(by omega)) with
    | true => exact run_all p s q hq d (k + 1) (by omega) (by rw [← run_step p s k (by omega) hp]; exact h)
    | false => rw [run_stop p s k (by omega) hp] at h; omega

theorem dig_at (s : ByteArray) (k q : Nat) (hk : k < s.size) (h2 : cl s[k] = 2) (hq : k ≤ q) (hr : q < run db s (k + 1)) (hqs : q < s.size) : 48 ≤ s[q].toNat ∧ s[q].toNat ≤ 57 := by
  have hr' : q < run db s k := by rw [run_step db s k hk (by simp [db, h2])]; exact hr
  have := run_all db s q hqs (q - k) k (by omega) hr'
  exact (cl_hash _).2.2.2.1 (by simpa [db] using this)

theorem dv_mono : ∀ (l l' : Bs) (n : Nat), dv n l ≤ dv n (l ++ l')
  | [], l', n => by
    have : ∀ (l : Bs) (n : Nat), n ≤ dv n l := by
      intro l
      induction l with
      | nil => intro n; exact Nat.le_refl _
      | cons c l ih => intro n; rw [dv_cons]; have := ih (10 * n + dg c); omega
    exact this _ _
  | c :: l, l', n => by rw [List.cons_append, dv_cons, dv_cons]; exact dv_mono l l' _

theorem dvAt_mono (s : ByteArray) (k a b : Nat) (h : a ≤ b) : dvAt s k a ≤ dvAt s k b := by
  unfold dvAt
  have h1 : a - k ≤ b - k := by omega
  have h2 : (s.data.toList.drop k).take (a - k) = ((s.data.toList.drop k).take (b - k)).take (a - k) := by rw [List.take_take, Nat.min_eq_left h1]
  rw [h2]
  conv => rhs; rw [← List.take_append_drop (a - k) ((s.data.toList.drop k).take (b - k))]
  exact dv_mono _ _ _

theorem nx_digits (s : ByteArray) (k : Nat) (hk : k < s.size) (h2 : cl s[k] = 2) : nx k (s.data.toList.drop k) =
    if dvAt s k (endAt s k) > 1099511627776 then .error 4 else .ok ⟨1, (s.data.toList.drop k).take (endAt s k - k), dvAt s k (endAt s k), k⟩ := by
  have h0 : tl (s.data.toList.drop k) ≠ 0 := by rw [drop_at s k hk, tl, if_neg (by omega), if_pos h2]; omega
  unfold dvAt
  rw [← tl_end]
  rw [drop_at s k hk] at h0 ⊢
  unfold nx
  simp only []
  rw [if_neg h0, if_neg (by omega), if_pos h2]

theorem nx_number_big (s : ByteArray) (k q : Nat) (hk : k < s.size) (h2 : cl s[k] = 2) (_hq0 : k ≤ q) (hq : q < endAt s k) (hN : dvAt s k (q + 1) > 1099511627776) : nx k (s.data.toList.drop k) = .error 4 := by
  have := dvAt_mono s k (q + 1) (endAt s k) hq
  rw [nx_digits s k hk h2, if_pos (by omega)]

theorem nx_number (s : ByteArray) (k j : Nat) (hk : k < s.size) (h2 : cl s[k] = 2) (hj : endAt s k = j) (hN : dvAt s k j ≤ 1099511627776) : nx k (s.data.toList.drop k) = .ok ⟨1, (s.data.toList.drop k).take (j - k), dvAt s k j, k⟩ := by
  rw [nx_digits s k hk h2, hj, if_neg (by omega)]

set_option maxHeartbeats 2000000 in
theorem next_number (s : ByteArray) (k : Nat) (w : World) (hs : s.size ≤ 4611686018427387904) (hk : k < s.size) (hK : Kinds w) (h2 : Hid (cl s[k] = 2)) :
    Calls Tryz.prog 131 #[.string s, .int .i64 k] w (NextPost s k w) := by
  have hkd : kdAt s k = 4 := by rw [kdAt_in s k hk]; exact (kd_digit _).2 h2.out
  have Hkd := Lib.hid hkd
  have HK := Lib.hid hK
  have hE := Lib.hid (endAt_number s k hk h2.out)
  clear hkd hK
  go_enter Tryz.func131, Tryz.ntmps131
  go_wp2_with (go_at_call 134; refine (kindAt_any _ _ _ hs (by omega) (HK.out.below (B := w.heap.size) (((Below.refl _ _).alloc (Nat.le_refl _) _).alloc (by simp) _) HK.out.lt)).mono ?_; rw [Hkd.out]; rintro e w' ⟨rfl, rfl⟩)
  go_loop [7] (fun i => ∃ (j : Nat), k < j ∧ j ≤ s.size ∧ i = .int .i64 j ∧ Hid (run db s j = endAt s k)) (fun i => s.size - (intOf i).toNat)
  case atStart => exact ⟨k + 1, by omega, by omega, by go_num, Lib.hid hE.out.symm⟩
  case round =>
    obtain ⟨j, hj0, hj, rfl, hI⟩ := hrel
    by_cases hm : kdAt s j = 4
    · have Hm := Lib.hid hm
      have hjl : j < s.size := by
        rcases Nat.lt_or_ge j s.size with h | h
        · exact h
        · rw [kdAt_out s j h] at hm; omega
      have hdb := Lib.hid ((kd_db s j hjl).1 hm)
      clear hm
      go_wp2_with (go_at_call 134; refine (kindAt_any _ _ _ hs (by omega) (HK.out.below (B := w.heap.size) (((Below.refl _ _).alloc (Nat.le_refl _) _).alloc (by simp) _) HK.out.lt)).mono ?_; rw [Hm.out]; rintro e w' ⟨rfl, rfl⟩)
      go_round
      case rel => exact ⟨j + 1, by omega, by omega, by go_num, Lib.hid (by rw [← run_step db s j hjl hdb.out, hI.out])⟩
      case measure => simp [intOf]; omega
    · have hm' : (kdAt s j == 4) = false := by simp [hm]
      have hend : Hid (endAt s k = j) := Lib.hid (by
        rw [← hI.out]
        rcases Nat.lt_or_ge j s.size with h | h
        · exact run_stop db s j h (by rw [kd_db s j h] at hm; simpa using hm)
        · exact run_end db s j h)
      clear hm
      go_wp2_with (go_at_call 134; refine (kindAt_any _ _ _ hs (by omega) (HK.out.below (B := w.heap.size) (((Below.refl _ _).alloc (Nat.le_refl _) _).alloc (by simp) _) HK.out.lt)).mono ?_; rintro e w' ⟨rfl, rfl⟩)
      go_loopw [9] (fun i wr => ∃ (q m : Nat), k ≤ q ∧ q ≤ j ∧ i = .int .i64 q ∧ Hid (wr = ((w.alloc (.cells #[.int .i64 0, .string ⟨#[]⟩, .int .i64 0, .int .i64 0] 142)).alloc (.cells #[.int .i64 1, .string ⟨#[]⟩, .int .i64 (dvAt s k q), .int .i64 k] 142)).drewN m) ∧ dvAt s k q ≤ 1099511627776) (fun i _ => s.size - (intOf i).toNat)
      case atStart => exact ⟨k, 0, Nat.le_refl _, by omega, rfl, Lib.hid (by rw [dvAt_self]; rfl), by rw [dvAt_self]; omega⟩
      case round =>
        obtain ⟨q, m, hq0, hq, rfl, hw, hN⟩ := hrel
        have hw' := hw.out
        subst hw'
        clear hw
        by_cases hlt : q < j
        · have hqs : q < s.size := by omega
          have hd := dig_at s k q hk h2.out hq0 (by rw [← hE.out, hend.out]; exact hlt) hqs
          have hst : ((dvAt s k q : Nat) : Int) * 10 + ((s[q].toNat : Nat) - 48) % 256 = ((dvAt s k (q + 1) : Nat) : Int) := by
            rw [dvAt_step s k q hq0 hqs, dg_eq]; omega
          have Hst := Lib.hid hst
          clear hst hd
          go_wp2
          go_region
          rw [Hst.out]
          by_cases hbig : dvAt s k (q + 1) ≤ 1099511627776
          · generalize hN' : dvAt s k (q + 1) = N' at *
            have HN' := Lib.hid hN'
            clear hN'
            go_wp2
            go_roundw
            case rel => exact ⟨q + 1, m + 1, by omega, by omega, by go_num, Lib.hid (by rw [HN'.out]), by rw [HN'.out]; exact hbig⟩
            case measure => simp [intOf]; omega
          · generalize hN' : dvAt s k (q + 1) = N' at *
            have HN' := Lib.hid hN'
            clear hN'
            go_wp2
            have hnx := nx_number_big s k q hk h2.out hq0 (by rw [hend.out]; exact hlt) (by rw [HN'.out]; omega)
            refine bodyPost_ret (v := .tuple #[tokAgg 1 ⟨#[]⟩ N' k, .int .i64 4]) (by simp [results, Tryz.results131, go_sem, tokAgg]) rfl ⟨below_drewN (((Below.refl _ _).alloc (Nat.le_refl _) _).alloc (by simp) _) _, .inl ⟨4, _, _, _, hnx, rfl, .inr rfl⟩⟩
        · obtain rfl : q = j := by omega
          go_wp2
          have hnx := nx_number s k q hk h2.out hend.out hN
          refine bodyPost_ret (v := .tuple #[tokAgg 1 (s.extract k q) (dvAt s k q) k, .int .i64 0]) (by simp [results, Tryz.results131, go_sem, tokAgg]) rfl ⟨below_drewN (((Below.refl _ _).alloc (Nat.le_refl _) _).alloc (by simp) _) _, .inr ⟨_, hnx, ?_⟩⟩
          have : q = k + (q - k) := by omega
          conv => lhs; rw [this, extract_text]
          rw [← this]

theorem nx_letters (s : ByteArray) (k : Nat) (hk : k < s.size) (h1 : cl s[k] = 1) : nx k (s.data.toList.drop k) =
    if endAt s k - k > 16 then .error 4 else .ok ⟨0, (s.data.toList.drop k).take (endAt s k - k), 0, k⟩ := by
  have h0 : tl (s.data.toList.drop k) ≠ 0 := by rw [drop_at s k hk, tl, if_pos h1]; omega
  rw [← tl_end]
  rw [drop_at s k hk] at h0 ⊢
  unfold nx
  simp only []
  rw [if_neg h0, if_pos h1]

theorem nx_none (s : ByteArray) (k : Nat) (hk : k < s.size) (h : endAt s k = k) : nx k (s.data.toList.drop k) = .error 2 := by
  have h0 : tl (s.data.toList.drop k) = 0 := by rw [tl_end, h]; omega
  rw [drop_at s k hk] at h0 ⊢
  unfold nx
  simp only []
  rw [if_pos h0]

theorem nx_arrow (s : ByteArray) (k : Nat) (hk : k < s.size) (h6 : cl s[k] = 6) (h : endAt s k = k + 2) : nx k (s.data.toList.drop k) = .ok ⟨2, (s.data.toList.drop k).take 2, 0, k⟩ := by
  have h0 : tl (s.data.toList.drop k) = 2 := by rw [tl_end, h]; omega
  rw [drop_at s k hk] at h0 ⊢
  unfold nx
  simp only [h0]
  rw [if_neg (by omega), if_neg (by omega), if_neg (by omega)]

set_option maxHeartbeats 2000000 in
theorem next_word (s : ByteArray) (k : Nat) (w : World) (hs : s.size ≤ 4611686018427387904) (hk : k < s.size) (hK : Kinds w) (h1 : Hid (cl s[k] = 1)) :
    Calls Tryz.prog 131 #[.string s, .int .i64 k] w (NextPost s k w) := by
  have hkd : kdAt s k = 3 := by rw [kdAt_in s k hk]; exact (kd_letter _).2 h1.out
  have Hkd := Lib.hid hkd
  have HK := Lib.hid hK
  have hE := Lib.hid (endAt_word s k hk h1.out)
  clear hkd hK
  go_enter Tryz.func131, Tryz.ntmps131
  go_wp2_with (go_at_call 134; refine (kindAt_any _ _ _ hs (by omega) (HK.out.below (B := w.heap.size) (((Below.refl _ _).alloc (Nat.le_refl _) _).alloc (by simp) _) HK.out.lt)).mono ?_; rw [Hkd.out]; rintro e w' ⟨rfl, rfl⟩)
  have hj1 : ((k : Int) + 1) = ((k + 1 : Nat) : Int) := by omega
  rw [hj1]
  clear hj1
  go_wp2_with (go_at_call 134; refine (kindAt_any _ _ _ hs (by omega) (HK.out.below (B := w.heap.size) (((Below.refl _ _).alloc (Nat.le_refl _) _).alloc (by simp) _) HK.out.lt)).mono ?_; rintro e w' ⟨rfl, rfl⟩)
  go_loop [7, 8] (fun i c => ∃ (j : Nat), k < j ∧ j ≤ s.size ∧ i = .int .i64 j ∧ c = .int .u8 (kdAt s j) ∧ Hid (run wb s j = endAt s k)) (fun i _ => s.size - (intOf i).toNat)
  case atStart => exact ⟨k + 1, by omega, by omega, by go_num, rfl, Lib.hid hE.out.symm⟩
  case round =>
    obtain ⟨j, hj0, hj, rfl, rfl, hI⟩ := hrel
    by_cases hm : kdAt s j = 3 ∨ kdAt s j = 4 ∨ kdAt s j = 5
    · have hjl : j < s.size := by
        rcases Nat.lt_or_ge j s.size with h | h
        · exact h
        · rw [kdAt_out s j h] at hm; omega
      have hwb := Lib.hid ((kd_wb s j hjl).1 hm)
      have Hm := Lib.hid hm
      clear hm
      generalize kdAt s j = kk at *
      rcases Hm.out with h | h | h
      all_goals
        subst h
        clear Hm
        go_wp2_with fail
        refine (kindAt_at s (j + 1) _ (by omega) _ hs (by omega) (HK.out.below (B := w.heap.size) (((Below.refl _ _).alloc (Nat.le_refl _) _).alloc (by simp) _) HK.out.lt)).mono ?_
        rintro e w' ⟨rfl, rfl⟩
        go_wp2_with fail
        go_round
        case rel => exact ⟨j + 1, by omega, by omega, by go_num, rfl, Lib.hid (by rw [← run_step wb s j hjl hwb.out, hI.out])⟩
        case measure => simp [intOf]; omega
    · have hend : Hid (endAt s k = j) := Lib.hid (by
        rw [← hI.out]
        rcases Nat.lt_or_ge j s.size with h | h
        · exact run_stop wb s j h (by rw [kd_wb s j h] at hm; simpa using hm)
        · exact run_end wb s j h)
      have q3 : (kdAt s j == 3) = false := by rw [beq_eq_false_iff_ne]; exact fun e => hm (.inl e)
      have q4 : (kdAt s j == 4) = false := by rw [beq_eq_false_iff_ne]; exact fun e => hm (.inr (.inl e))
      have q5 : (kdAt s j == 5) = false := by rw [beq_eq_false_iff_ne]; exact fun e => hm (.inr (.inr e))
      clear hm
      have hnx := Lib.hid (nx_letters s k hk h1.out)
      by_cases hbig : 16 < j - k
      · go_wp2_with fail
        refine bodyPost_ret (v := .tuple #[tokAgg 0 ⟨#[]⟩ 0 k, .int .i64 4]) (by simp [results, Tryz.results131, go_sem, tokAgg]) rfl ⟨((Below.refl _ _).alloc (Nat.le_refl _) _).alloc (by simp) _, .inl ⟨4, _, _, _, by rw [hnx.out, hend.out, if_pos hbig], rfl, .inr rfl⟩⟩
      · go_wp2_with fail
        refine bodyPost_ret (v := .tuple #[tokAgg 0 (s.extract k j) 0 k, .int .i64 0]) (by simp [results, Tryz.results131, go_sem, tokAgg]) rfl ⟨((Below.refl _ _).alloc (Nat.le_refl _) _).alloc (by simp) _, .inr ⟨⟨0, (s.data.toList.drop k).take (j - k), 0, k⟩, by rw [hnx.out, hend.out, if_neg hbig], ?_⟩⟩
        have : j = k + (j - k) := by omega
        conv => lhs; rw [this, extract_text]

set_option maxHeartbeats 2000000 in
theorem next_other (s : ByteArray) (k : Nat) (w : World) (hs : s.size ≤ 4611686018427387904) (hk : k < s.size) (hK : Kinds w)
    (h : Hid (cl s[k] ≠ 1 ∧ cl s[k] ≠ 2 ∧ cl s[k] ≠ 4 ∧ cl s[k] ≠ 6)) :
    Calls Tryz.prog 131 #[.string s, .int .i64 k] w (NextPost s k w) := by
  have h3 : (kdAt s k == 3) = false := by rw [kdAt_in s k hk, beq_eq_false_iff_ne]; exact fun e => h.out.1 ((kd_letter _).1 e)
  have h4 : (kdAt s k == 4) = false := by rw [kdAt_in s k hk, beq_eq_false_iff_ne]; exact fun e => h.out.2.1 ((kd_digit _).1 e)
  have h7 : (kdAt s k == 7) = false := by rw [kdAt_in s k hk, beq_eq_false_iff_ne]; exact fun e => h.out.2.2.1 ((kd_symbol _).1 e)
  have h6 : (kdAt s k == 6) = false := by rw [kdAt_in s k hk, beq_eq_false_iff_ne]; exact fun e => h.out.2.2.2 ((kd_minus _).1 e)
  have HK := Lib.hid hK
  have hE := Lib.hid (endAt_other s k hk h.out.1 h.out.2.1 h.out.2.2.1 h.out.2.2.2)
  clear hK
  go_enter Tryz.func131, Tryz.ntmps131
  go_wp2_with (go_at_call 134; refine (kindAt_any _ _ _ hs (by omega) (HK.out.below (B := w.heap.size) (((Below.refl _ _).alloc (Nat.le_refl _) _).alloc (by simp) _) HK.out.lt)).mono ?_; rintro e w' ⟨rfl, rfl⟩)
  refine bodyPost_ret (v := .tuple #[tokAgg 0 ⟨#[]⟩ 0 k, .int .i64 2]) (by simp [results, Tryz.results131, go_sem, tokAgg]) rfl ⟨((Below.refl _ _).alloc (Nat.le_refl _) _).alloc (by simp) _, .inl ⟨2, _, _, _, nx_none s k hk hE.out, rfl, .inl rfl⟩⟩

set_option maxHeartbeats 2000000 in
theorem next_minus (s : ByteArray) (k : Nat) (w : World) (hs : s.size ≤ 4611686018427387904) (hk : k < s.size) (hK : Kinds w) (h6 : Hid (cl s[k] = 6)) :
    Calls Tryz.prog 131 #[.string s, .int .i64 k] w (NextPost s k w) := by
  have hkd : kdAt s k = 6 := by rw [kdAt_in s k hk]; exact (kd_minus _).2 h6.out
  have Hkd := Lib.hid hkd
  have HK := Lib.hid hK
  clear hkd hK
  by_cases hlt : k + 1 < s.size
  · by_cases hq : s[k + 1].toNat = 62
    · have hE := Lib.hid (endAt_arrow s k hlt h6.out hq)
      have hq' : ((s[k + 1].toNat : Int) != 62) = false := by simp [hq]
      clear hq
      go_enter Tryz.func131, Tryz.ntmps131
      go_wp2_with (go_at_call 134; refine (kindAt_any _ _ _ hs (by omega) (HK.out.below (B := w.heap.size) (((Below.refl _ _).alloc (Nat.le_refl _) _).alloc (by simp) _) HK.out.lt)).mono ?_; rw [Hkd.out]; rintro e w' ⟨rfl, rfl⟩)
      refine bodyPost_ret (v := .tuple #[tokAgg 2 (s.extract k (k + 2)) 0 k, .int .i64 0]) (by simp [results, Tryz.results131, go_sem, tokAgg]) rfl ⟨((Below.refl _ _).alloc (Nat.le_refl _) _).alloc (by simp) _, .inr ⟨_, nx_arrow s k hk h6.out hE.out, ?_⟩⟩
      rw [extract_text]
    · have hE := Lib.hid (endAt_minus s k hlt h6.out hq)
      have hq' : ((s[k + 1].toNat : Int) != 62) = true := by rw [bne_iff_ne]; omega
      clear hq
      go_enter Tryz.func131, Tryz.ntmps131
      go_wp2_with (go_at_call 134; refine (kindAt_any _ _ _ hs (by omega) (HK.out.below (B := w.heap.size) (((Below.refl _ _).alloc (Nat.le_refl _) _).alloc (by simp) _) HK.out.lt)).mono ?_; rw [Hkd.out]; rintro e w' ⟨rfl, rfl⟩)
      refine bodyPost_ret (v := .tuple #[tokAgg 2 ⟨#[]⟩ 0 k, .int .i64 2]) (by simp [results, Tryz.results131, go_sem, tokAgg]) rfl ⟨((Below.refl _ _).alloc (Nat.le_refl _) _).alloc (by simp) _, .inl ⟨2, _, _, _, nx_none s k hk hE.out, rfl, .inl rfl⟩⟩
  · have hE := Lib.hid (endAt_minus_end s k hk (by omega) h6.out)
    go_enter Tryz.func131, Tryz.ntmps131
    go_wp2_with (go_at_call 134; refine (kindAt_any _ _ _ hs (by omega) (HK.out.below (B := w.heap.size) (((Below.refl _ _).alloc (Nat.le_refl _) _).alloc (by simp) _) HK.out.lt)).mono ?_; rw [Hkd.out]; rintro e w' ⟨rfl, rfl⟩)
    refine bodyPost_ret (v := .tuple #[tokAgg 2 ⟨#[]⟩ 0 k, .int .i64 2]) (by simp [results, Tryz.results131, go_sem, tokAgg]) rfl ⟨((Below.refl _ _).alloc (Nat.le_refl _) _).alloc (by simp) _, .inl ⟨2, _, _, _, nx_none s k hk hE.out, rfl, .inl rfl⟩⟩

theorem next_any (s : ByteArray) (k : Nat) (w : World) (hs : s.size ≤ 4611686018427387904) (hk : k < s.size) (hK : Kinds w) :
    Calls Tryz.prog 131 #[.string s, .int .i64 k] w (NextPost s k w) := by
  by_cases h1 : cl s[k] = 1
  · exact next_word s k w hs hk hK (Lib.hid h1)
  · by_cases h2 : cl s[k] = 2
    · exact next_number s k w hs hk hK (Lib.hid h2)
    · by_cases h4 : cl s[k] = 4
      · exact next_symbol s k w hs hk hK (Lib.hid h4)
      · by_cases h6 : cl s[k] = 6
        · exact next_minus s k w hs hk hK (Lib.hid h6)
        · exact next_other s k w hs hk hK (Lib.hid ⟨h1, h2, h4, h6⟩)

end Go.Proofs.YtfpcgjgkbniofaaGreatDoor
