/- The reference's Tokens. -/
import Derived.Test.YtfpcgjgkbniofaaGreatDoorTokens
namespace Go.Proofs.YtfpcgjgkbniofaaGreatDoor
open Go.RowKit

theorem infoRTok : (Tryz.prog.info? 152).map (fun i => (i.zero, i.size, i.bytes)) = some (some (.agg #[.int .i64 0, .string ⟨#[]⟩, .int .i64 0, .int .i64 0]), 4, 40) := by kernel_rfl

/-- what is still to come behind the tokens ts -/
def Rest (s : ByteArray) (ts : List Tok) (k : Nat) : Prop :=
  lx s.size s.data.toList = match lx s.size (s.data.toList.drop k) with
    | .error x => .error x
    | .ok us => .ok (ts ++ us)

theorem Rest.start (s : ByteArray) : Rest s [] (skAt s false 0) := by
  unfold Rest
  rw [skAt_drop, lx_skip, List.drop_zero]
  cases lx s.size s.data.toList <;> rfl

theorem Rest.step {s : ByteArray} {ts : List Tok} {k : Nat} {t : Tok} (h : Rest s ts k) (hlt : k < s.size) (hsk : sk false (s.data.toList.drop k) = s.data.toList.drop k)
    (hnx : nx k (s.data.toList.drop k) = .ok t) : Rest s (ts ++ [t]) (skAt s false (endAt s k)) := by
  unfold Rest at h ⊢
  rw [h, lx_ok s k t hlt hsk hnx, skAt_drop, lx_skip]
  cases lx s.size (s.data.toList.drop (endAt s k)) with
  | error x => rfl
  | ok us => simp

theorem Rest.err {s : ByteArray} {ts : List Tok} {k : Nat} {er : Int} (h : Rest s ts k) (hlt : k < s.size) (hsk : sk false (s.data.toList.drop k) = s.data.toList.drop k)
    (hnx : nx k (s.data.toList.drop k) = .error er) : lx s.size s.data.toList = .error (k, er) := by
  unfold Rest at h
  rw [h, lx_error s k er hlt hsk hnx]

theorem Rest.ends {s : ByteArray} {ts : List Tok} {k : Nat} (h : Rest s ts k) (hk : s.size ≤ k) : lx s.size s.data.toList = .ok ts := by
  unfold Rest at h
  rw [h, drop_end s k hk]
  show Except.ok (ts ++ []) = _
  rw [List.append_nil]

theorem cells_new2 (w : World) (o : Obj) (l : List Value) (t : TypeId) : ∀ j u, l[j]? = some u → ((w.alloc o).alloc (.cells l.toArray t)).cell? ((⟨w.heap.size + 1, 0, none⟩ : Addr).add j) = some u := by
  have := cells_new (w.alloc o) l t
  rw [World.size_alloc] at this
  exact this

theorem rvalue_at (s : ByteArray) (k : Nat) (hk : k < s.size) (h2 : cl s[k] = 2) (hgt : k < endAt s k) (hle : endAt s k ≤ s.size) (hs : s.size ≤ 4611686018427387904) (w : World) :
    Calls Tryz.prog 123 #[.string (s.extract k (endAt s k))] w fun e w' => e = .returned (.int .i64 (min (dvAt s k (endAt s k)) 1099511627777 : Nat)) ∧ w = w' := by
  have he : s.extract k (endAt s k) = ⟨((s.data.toList.drop k).take (endAt s k - k)).toArray⟩ := by
    have : endAt s k = k + (endAt s k - k) := by omega
    conv => lhs; rw [this, extract_text]
  have hsz : (s.extract k (endAt s k)).size = endAt s k - k := by rw [ByteArray.size_extract]; omega
  have hl : s.data.toList.length = s.size := by simp
  have hv := value_any (s.extract k (endAt s k)) w (by omega) (by
    intro j hj
    have hj' : k + j < s.size := by omega
    have hb : (s.extract k (endAt s k))[j] = s[k + j] := by simp [ByteArray.getElem_extract]
    rw [hb]
    exact dig_at s k (k + j) hk h2 (by omega) (by rw [← endAt_number s k hk h2]; omega) hj')
  refine hv.mono ?_
  rintro e w' ⟨rfl, rfl⟩
  refine ⟨ret_int ?_, rfl⟩
  rw [he]; rfl

set_option maxHeartbeats 400000 in
theorem rtokens_long (s : ByteArray) (w : World) (hs : 8192 < s.size) (hs' : s.size ≤ 4611686018427387904) :
    Calls Tryz.prog 110 #[.string s] w (TokPost 152 s w) := by
  go_enter Tryz.func110, Tryz.ntmps110
  go_wp2
  go_ret3
  exact ⟨Below.refl _ _, .inr ⟨0, 4, by unfold lxs; rw [if_pos hs], rfl, .inr rfl⟩⟩

theorem rt_close {s : ByteArray} {w wr w1 : World} {k : Nat} {ts : List Tok} {v v' : Value} {kind n : Int} {A B : Obj}
    (hk : k < s.size) (hts : ts.length ≤ k) (hgt : k < endAt s k) (hle : endAt s k ≤ s.size) (hsk : sk false (s.data.toList.drop k) = s.data.toList.drop k) (hR : Rest s ts k)
    (hnx : nx k (s.data.toList.drop k) = .ok ⟨kind, (s.data.toList.drop k).take (endAt s k - k), n, k⟩)
    (hB : Below w.heap.size w wr) (hv : wr.ownsRow w.heap.size 152 4 v ts.length (cellsOf ts))
    (hown : w1.ownsRow w.heap.size 152 4 v' (ts.length + 1) (cellsOf ts ++ [.int .i64 kind, .string (s.extract k (endAt s k)), .int .i64 n, .int .i64 k]))
    (hg : ((wr.alloc A).alloc B).grownBy w1 v.ownBlock) :
    (∃ (k' : Nat) (ts' : List Tok), k' ≤ s.size ∧ ts'.length ≤ k' ∧ Value.int IntKind.i64 ↑(skAt s false (endAt s k)) = .int .i64 k' ∧ Hid (sk false (s.data.toList.drop k') = s.data.toList.drop k') ∧ Hid (Rest s ts' k') ∧
      Hid (w1.ownsRow w.heap.size 152 4 v' ts'.length (cellsOf ts')) ∧ Hid (Below w.heap.size w w1)) := by
  have hge := skAt_ge s (endAt s k) hle
  refine ⟨skAt s false (endAt s k), ts ++ [⟨kind, (s.data.toList.drop k).take (endAt s k - k), n, k⟩], skAt_le _ _ _, by simp; omega, rfl, by rw [skAt_drop, sk_idem]; rfl, hR.step hk hsk hnx, ?_, ?_⟩
  · have he : s.extract k (endAt s k) = ⟨((s.data.toList.drop k).take (endAt s k - k)).toArray⟩ := by
      have : endAt s k = k + (endAt s k - k) := by omega
      conv => lhs; rw [this, extract_text]
    rw [he] at hown
    rw [cellsOf_snoc, List.length_append]
    exact hown
  · have hw := hB.size
    exact ((hB.alloc hw A).alloc (by simp; omega) B).grown hg (by simp; omega) (fun r e => (hv.lt r e).1)

set_option maxRecDepth 100000 in
set_option maxHeartbeats 2000000 in
theorem rtokens_short (s : ByteArray) (w : World) (hs : s.size ≤ 8192) :
    Calls Tryz.prog 110 #[.string s] w (TokPost 152 s w) := by
  have Hlx : Hid (lxs s = lx s.size s.data.toList) := Lib.hid (by unfold lxs; rw [if_neg (by omega)])
  obtain ⟨i0, hi, hz0, hz1, hz2⟩ := info_parts infoRTok
  have Hi := Lib.hid hi
  have Hz0 := Lib.hid hz0
  have Hz1 := Lib.hid hz1
  have Hz2 := Lib.hid hz2
  clear hi hz0 hz1 hz2
  go_enter Tryz.func110, Tryz.ntmps110
  go_wp2_with (go_at_call 120; refine (rskip_any s 0 _ (by omega) (by omega)).mono ?_; rintro e w' ⟨rfl, rfl⟩)
  go_loopw [5, 6] (fun v i wr => ∃ (k : Nat) (ts : List Tok), k ≤ s.size ∧ ts.length ≤ k ∧ i = .int .i64 k ∧ Hid (sk false (s.data.toList.drop k) = s.data.toList.drop k) ∧ Hid (Rest s ts k) ∧ Hid (wr.ownsRow w.heap.size 152 4 v ts.length (cellsOf ts)) ∧ Hid (Below w.heap.size w wr)) (fun _ i _ => s.size - (intOf i).toNat)
  case atStart => exact ⟨skAt s false 0, [], skAt_le _ _ _, by simp, rfl, Lib.hid (by rw [skAt_drop, sk_idem]), Lib.hid (Rest.start s), Lib.hid (World.ownsRow_nil _ _ _ _), Lib.hid (Below.refl _ _)⟩
  case round =>
    obtain ⟨k, ts, hk, hts, rfl, hsk, hR, hown, hB⟩ := hrel
    have hwr : w.heap.size ≤ wr.heap.size := hB.out.size
    by_cases hlt : k < s.size
    · by_cases hend : endAt s k = k
      · have He := Lib.hid hend
        have hnx := Lib.hid (nx_none s k hlt hend)
        clear hend
        go_wp2_with (go_at_call 121; refine (rend_any s k _ (by omega) hlt).mono ?_; rw [He.out]; rintro e w' ⟨rfl, rfl⟩)
        go_ret3
        exact ⟨hB.out, .inr ⟨k, 2, by rw [Hlx.out]; exact hR.out.err hlt hsk.out hnx.out, rfl, .inl rfl⟩⟩
      · have hge : k ≤ endAt s k := by unfold endAt; omega
        have hgt : k < endAt s k := by omega
        clear hge
        have hle : endAt s k ≤ s.size := by
          have := tl_le (s.data.toList.drop k)
          have hl : s.data.toList.length = s.size := by simp
          rw [List.length_drop] at this
          unfold endAt; omega
        have hnend : ((endAt s k : Int) == (k : Int)) = false := by rw [beq_eq_false_iff_ne]; omega
        clear hend
        by_cases h1 : cl s[k] = 1
        · have q1 : (cl s[k] == 1) = true := by rw [beq_iff_eq]; exact h1
          have q2 : (cl s[k] == 2) = false := by rw [beq_eq_false_iff_ne]; omega
          have hnx0 := Lib.hid (nx_letters s k hlt h1)
          clear h1
          by_cases hbig : 16 < endAt s k - k
          · have hnx : Hid (nx k (s.data.toList.drop k) = .error 4) := Lib.hid (by rw [hnx0.out, if_pos hbig])
            go_wp2_with (first | (at_builtin; (refine wpList_append_own _ rfl _ _ 149 rfl w.heap.size 152 i0 (.agg #[.int .i64 0, .string ⟨#[]⟩, .int .i64 0, .int .i64 0]) 4 40 Tryz.underlying149 Hi.out Hz0.out Hz1.out Hz2.out rfl (by decide) _ _ _ rfl ((hown.out.alloc _).alloc _) ⟨wr.heap.size + 1, 0, none⟩ 1 1 [.int .i64 0, .string (s.extract k (endAt s k)), .int .i64 0, .int .i64 k] rfl rfl (cells_new2 _ _ [.int .i64 0, .string (s.extract k (endAt s k)), .int .i64 0, .int .i64 k] _) (by simp [Value.oneCell']) (by unfold maxLen; omega) (by omega) (by simp; omega) ?_); intro v' w1 hown' hgrow _; have Hown' := Lib.hid hown'; have Hgrow := Lib.hid hgrow; clear hown' hgrow) | (go_at_call 121; refine (rend_any s k _ (by omega) hlt).mono ?_; rintro e w' ⟨rfl, rfl⟩) | (go_at_call 122; refine (class_any _ _).mono ?_; rintro e w' ⟨rfl, rfl⟩) | (go_at_call 120; refine (rskip_any s (endAt s k) _ (by omega) hle).mono ?_; rintro e w' ⟨rfl, rfl⟩))
            go_ret3
            exact ⟨hB.out.alloc hwr _, .inr ⟨k, 4, by rw [Hlx.out]; exact hR.out.err hlt hsk.out hnx.out, rfl, .inr rfl⟩⟩
          · have hnx : Hid (nx k (s.data.toList.drop k) = .ok ⟨0, (s.data.toList.drop k).take (endAt s k - k), 0, k⟩) := Lib.hid (by rw [hnx0.out, if_neg hbig])
            go_wp2_with (first | (at_builtin; (refine wpList_append_own _ rfl _ _ 149 rfl w.heap.size 152 i0 (.agg #[.int .i64 0, .string ⟨#[]⟩, .int .i64 0, .int .i64 0]) 4 40 Tryz.underlying149 Hi.out Hz0.out Hz1.out Hz2.out rfl (by decide) _ _ _ rfl ((hown.out.alloc _).alloc _) ⟨wr.heap.size + 1, 0, none⟩ 1 1 [.int .i64 0, .string (s.extract k (endAt s k)), .int .i64 0, .int .i64 k] rfl rfl (cells_new2 _ _ [.int .i64 0, .string (s.extract k (endAt s k)), .int .i64 0, .int .i64 k] _) (by simp [Value.oneCell']) (by unfold maxLen; omega) (by omega) (by simp; omega) ?_); intro v' w1 hown' hgrow _; have Hown' := Lib.hid hown'; have Hgrow := Lib.hid hgrow; clear hown' hgrow) | (go_at_call 121; refine (rend_any s k _ (by omega) hlt).mono ?_; rintro e w' ⟨rfl, rfl⟩) | (go_at_call 122; refine (class_any _ _).mono ?_; rintro e w' ⟨rfl, rfl⟩) | (go_at_call 120; refine (rskip_any s (endAt s k) _ (by omega) hle).mono ?_; rintro e w' ⟨rfl, rfl⟩))
            go_roundw
            case rel => exact rt_close hlt hts hgt hle hsk.out hR.out hnx.out hB.out hown.out Hown'.out Hgrow.out
            case measure =>
              have := skAt_ge s (endAt s k) hle
              simp [intOf]; omega
        · by_cases h2 : cl s[k] = 2
          · have q1 : (cl s[k] == 1) = false := by rw [beq_eq_false_iff_ne]; exact h1
            have q2 : (cl s[k] == 2) = true := by rw [beq_iff_eq]; exact h2
            have hnx0 := Lib.hid (nx_digits s k hlt h2)
            have hdv : Hid (∀ w, Calls Tryz.prog 123 #[.string (s.extract k (endAt s k))] w fun e w' => e = .returned (.int .i64 (min (dvAt s k (endAt s k)) 1099511627777 : Nat)) ∧ w = w') := Lib.hid (rvalue_at s k hlt h2 hgt hle (by omega))
            clear h1 h2
            by_cases hbig : 1099511627776 < dvAt s k (endAt s k)
            · have hnx : Hid (nx k (s.data.toList.drop k) = .error 4) := Lib.hid (by rw [hnx0.out, if_pos hbig])
              have hmin : Hid (min (dvAt s k (endAt s k)) 1099511627777 = 1099511627777) := Lib.hid (by omega)
              go_wp2_with (first | (at_builtin; (refine wpList_append_own _ rfl _ _ 149 rfl w.heap.size 152 i0 (.agg #[.int .i64 0, .string ⟨#[]⟩, .int .i64 0, .int .i64 0]) 4 40 Tryz.underlying149 Hi.out Hz0.out Hz1.out Hz2.out rfl (by decide) _ _ _ rfl ((hown.out.alloc _).alloc _) ⟨wr.heap.size + 1, 0, none⟩ 1 1 [.int .i64 1, .string (s.extract k (endAt s k)), .int .i64 0, .int .i64 k] rfl rfl (cells_new2 _ _ [.int .i64 1, .string (s.extract k (endAt s k)), .int .i64 0, .int .i64 k] _) (by simp [Value.oneCell']) (by unfold maxLen; omega) (by omega) (by simp; omega) ?_); intro v' w1 hown' hgrow _; have Hown' := Lib.hid hown'; have Hgrow := Lib.hid hgrow; clear hown' hgrow) | (go_at_call 121; refine (rend_any s k _ (by omega) hlt).mono ?_; rintro e w' ⟨rfl, rfl⟩) | (go_at_call 122; refine (class_any _ _).mono ?_; rintro e w' ⟨rfl, rfl⟩) | (go_at_call 123; refine (hdv.out _).mono ?_; rw [hmin.out]; rintro e w' ⟨rfl, rfl⟩) | (go_at_call 120; refine (rskip_any s (endAt s k) _ (by omega) hle).mono ?_; rintro e w' ⟨rfl, rfl⟩))
              go_ret3
              exact ⟨hB.out.alloc hwr _, .inr ⟨k, 4, by rw [Hlx.out]; exact hR.out.err hlt hsk.out hnx.out, rfl, .inr rfl⟩⟩
            · have hnx : Hid (nx k (s.data.toList.drop k) = .ok ⟨1, (s.data.toList.drop k).take (endAt s k - k), dvAt s k (endAt s k), k⟩) := Lib.hid (by rw [hnx0.out, if_neg hbig])
              have hmin : Hid (min (dvAt s k (endAt s k)) 1099511627777 = dvAt s k (endAt s k)) := Lib.hid (by omega)
              go_wp2_with (first | (at_builtin; (refine wpList_append_own _ rfl _ _ 149 rfl w.heap.size 152 i0 (.agg #[.int .i64 0, .string ⟨#[]⟩, .int .i64 0, .int .i64 0]) 4 40 Tryz.underlying149 Hi.out Hz0.out Hz1.out Hz2.out rfl (by decide) _ _ _ rfl ((hown.out.alloc _).alloc _) ⟨wr.heap.size + 1, 0, none⟩ 1 1 [.int .i64 1, .string (s.extract k (endAt s k)), .int .i64 (dvAt s k (endAt s k) : Nat), .int .i64 k] rfl rfl (cells_new2 _ _ [.int .i64 1, .string (s.extract k (endAt s k)), .int .i64 (dvAt s k (endAt s k) : Nat), .int .i64 k] _) (by simp [Value.oneCell']) (by unfold maxLen; omega) (by omega) (by simp; omega) ?_); intro v' w1 hown' hgrow _; have Hown' := Lib.hid hown'; have Hgrow := Lib.hid hgrow; clear hown' hgrow) | (go_at_call 121; refine (rend_any s k _ (by omega) hlt).mono ?_; rintro e w' ⟨rfl, rfl⟩) | (go_at_call 122; refine (class_any _ _).mono ?_; rintro e w' ⟨rfl, rfl⟩) | (go_at_call 123; refine (hdv.out _).mono ?_; rw [hmin.out]; rintro e w' ⟨rfl, rfl⟩) | (go_at_call 120; refine (rskip_any s (endAt s k) _ (by omega) hle).mono ?_; rintro e w' ⟨rfl, rfl⟩))
              go_roundw
              case rel => exact rt_close hlt hts hgt hle hsk.out hR.out hnx.out hB.out hown.out Hown'.out Hgrow.out
              case measure =>
                have := skAt_ge s (endAt s k) hle
                simp [intOf]; omega
          · have q1 : (cl s[k] == 1) = false := by rw [beq_eq_false_iff_ne]; exact h1
            have q2 : (cl s[k] == 2) = false := by rw [beq_eq_false_iff_ne]; exact h2
            have hnx : Hid (nx k (s.data.toList.drop k) = .ok ⟨2, (s.data.toList.drop k).take (endAt s k - k), 0, k⟩) := Lib.hid (by
              have h0 : tl (s.data.toList.drop k) ≠ 0 := by rw [tl_end]; omega
              rw [← tl_end]
              rw [drop_at s k hlt] at h0 ⊢
              unfold nx
              simp only []
              rw [if_neg h0, if_neg h1, if_neg h2])
            clear h1 h2
            go_wp2_with (first | (at_builtin; (refine wpList_append_own _ rfl _ _ 149 rfl w.heap.size 152 i0 (.agg #[.int .i64 0, .string ⟨#[]⟩, .int .i64 0, .int .i64 0]) 4 40 Tryz.underlying149 Hi.out Hz0.out Hz1.out Hz2.out rfl (by decide) _ _ _ rfl ((hown.out.alloc _).alloc _) ⟨wr.heap.size + 1, 0, none⟩ 1 1 [.int .i64 2, .string (s.extract k (endAt s k)), .int .i64 0, .int .i64 k] rfl rfl (cells_new2 _ _ [.int .i64 2, .string (s.extract k (endAt s k)), .int .i64 0, .int .i64 k] _) (by simp [Value.oneCell']) (by unfold maxLen; omega) (by omega) (by simp; omega) ?_); intro v' w1 hown' hgrow _; have Hown' := Lib.hid hown'; have Hgrow := Lib.hid hgrow; clear hown' hgrow) | (go_at_call 121; refine (rend_any s k _ (by omega) hlt).mono ?_; rintro e w' ⟨rfl, rfl⟩) | (go_at_call 122; refine (class_any _ _).mono ?_; rintro e w' ⟨rfl, rfl⟩) | (go_at_call 120; refine (rskip_any s (endAt s k) _ (by omega) hle).mono ?_; rintro e w' ⟨rfl, rfl⟩))
            go_roundw
            case rel => exact rt_close hlt hts hgt hle hsk.out hR.out hnx.out hB.out hown.out Hown'.out Hgrow.out
            case measure =>
              have := skAt_ge s (endAt s k) hle
              simp [intOf]; omega
    · go_wp2
      go_ret3
      exact ⟨hB.out, .inl ⟨ts, _, by rw [Hlx.out]; exact hR.out.ends (by omega), by omega, rfl, hown.out⟩⟩

theorem rtokens_any (s : ByteArray) (w : World) (hs' : s.size ≤ 4611686018427387904) :
    Calls Tryz.prog 110 #[.string s] w (TokPost 152 s w) := by
  by_cases h : 8192 < s.size
  · exact rtokens_long s w h hs'
  · exact rtokens_short s w (by omega)

end Go.Proofs.YtfpcgjgkbniofaaGreatDoor
