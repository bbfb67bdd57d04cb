/- ref09: the parts of Valid, at good catalogs. -/
import Derived.Test.YtfpcgjgkbniofaaGreatDoorGNet
import Derived.Test.YtfpcgjgkbniofaaGreatDoorRefTokens
set_option linter.unusedVariables false
set_option linter.unusedSimpArgs false
namespace Go.Proofs.YtfpcgjgkbniofaaGreatDoor
open Go.RowKit
attribute [local go_sem] Oper.semAt_some

set_option maxHeartbeats 1000000 in
theorem rword_any (n : Tx) (w : World) (hn : WordT n) : Calls Tryz.prog 94 #[.string ⟨n.toArray⟩] w fun e w' => e = .returned (.bool true) ∧ Below w.heap.size w w' := by
  have HT := Lib.hid (rtokens_any ⟨n.toArray⟩ w (by have := hn.1; show n.toArray.size ≤ _; simp; omega))
  have HN := Lib.hid hn.2
  have hlen := hn.1
  clear hn
  go_enter Tryz.func94, Tryz.ntmps94
  go_wp2_with fail
  refine HT.out.mono ?_
  rintro e w5 ⟨hB, ⟨ts, v, h1, h2, rfl, ho⟩ | ⟨k, er, h1, rfl, her⟩⟩
  · rw [HN.out] at h1
    injection h1 with h1
    subst h1
    have HB := Lib.hid hB
    obtain ⟨g, cap, rfl, -⟩ := ho.form (by simp)
    have hc0 := ho.cells (g := g) rfl 0 _ rfl
    have hc1 := ho.cells (g := g) rfl 1 _ rfl
    have ha0 : (⟨g, 0, none⟩ : Addr).add 0 = ⟨g, 0, none⟩ := rfl
    have ha1 : (⟨g, 0, none⟩ : Addr).add 1 = ⟨g, 1, none⟩ := rfl
    rw [ha0] at hc0
    rw [ha1] at hc1
    simp only [] at hc0 hc1
    have hcap : 1 ≤ cap ∧ cap ≤ 9223372036854775807 := by
      rcases ho.2 with ⟨hv, _⟩ | ⟨_, _, _, hv, _, _, h4, h3, _⟩
      · cases hv
      · injection hv with _ _ e
        unfold maxLen at h3
        simp at h4
        omega
    clear ho hB h2 ha0 ha1
    simp only [List.length_cons, List.length_nil]
    go_wp2_with fail
    go_ret
    exact ⟨rfl, HB.out⟩
  · rw [HN.out] at h1
    cases h1

/-- a slice of texts -/
def TxsAt (w : World) (v : Value) (l : List Tx) : Prop := SliceOf 1 (fun _ (t : Tx) cs => cs = [.string ⟨t.toArray⟩]) w v l
theorem TxsAt.below {w w' : World} {v : Value} {l : List Tx} (h : TxsAt w v l) (hb : Below w.heap.size w w') : TxsAt w' v l := SliceOf.below h hb (fun _ _ h => h)
theorem TxsAt.at_ {w : World} {v : Value} {l : List Tx} (h : TxsAt w v l) (j : Nat) (hj : j < l.length) :
    ∃ b cap, v = .slice (some ⟨b, 0, none⟩) l.length cap ∧ b < w.heap.size ∧ w.cell? ⟨b, j, none⟩ = some (.string ⟨l[j].toArray⟩) := by
  obtain ⟨b, cap, cs, hv, hb, rfl, _, hc⟩ := SliceOf.at_ h j hj
  have := hc 0 (by omega)
  rw [Nat.mul_one, Nat.add_zero] at this
  exact ⟨b, cap, hv, hb, this⟩
def txV (t : Tx) : Value := .string ⟨t.toArray⟩
theorem txs_of_own {w : World} {base : Nat} {e : TypeId} {v : Value} {l : List Tx} (h : w.ownsRow base e 1 v l.length (l.map txV)) : TxsAt w v l := by
  refine SliceOf.of_own (css := l.map (fun a => [txV a])) (base := base) (e := e) (by rw [flatten_one, List.length_map]; exact h) (by simp) (by simp) ?_
  intro j h1 h2
  simp [txV]
theorem elemStr : Elem Tryz.prog 56 9 1 16 := Elem.mk (z := .string ⟨#[]⟩) Tryz.underlying56 (by kernel_rfl) rfl (by decide)

set_option maxHeartbeats 1000000 in
theorem rin_any (v : Value) (l : List Tx) (n : Tx) (w : World) (h : TxsAt w v l) : Calls Tryz.prog 95 #[v, .string ⟨n.toArray⟩] w fun e w' => e = .returned (.bool (decide (n ∈ l))) ∧ w' = w := by
  obtain ⟨a, cap, rfl, h1, h2⟩ := h.form
  have HL := Lib.hid h
  clear h
  go_enter Tryz.func95, Tryz.ntmps95
  go_wp2_with fail
  go_loop [5] (fun i => ∃ j : Nat, j ≤ l.length ∧ i = .int .i64 j ∧ Hid (n ∉ l.take j)) (fun i => l.length - (intOf i).toNat)
  case atStart => exact ⟨0, by omega, rfl, Lib.hid (by simp)⟩
  case round =>
    obtain ⟨j, hj, rfl, HN⟩ := hrel
    by_cases hlt : j < l.length
    · obtain ⟨b1, cap1, hv1, hb1, n0⟩ := TxsAt.at_ HL.out j hlt
      injection hv1 with e1 e2 e3
      subst e1
      clear e2 e3
      have HT : Hid (l.take (j + 1) = l.take j ++ [l[j]]) := Lib.hid (List.take_succ_eq_append_getElem hlt)
      have HM := Lib.hid (List.getElem_mem hlt)
      generalize l[j] = x at *
      by_cases he : x = n
      · have hq : (x == n) = true := by rw [he]; simp
        have HE : Hid (decide (n ∈ l) = true) := Lib.hid (decide_eq_true (he ▸ HM.out))
        go_wp2_with fail
        go_ret
        exact ⟨by rw [HE.out]; rfl, rfl⟩
      · have hq : (x == n) = false := by simpa using he
        have HN2 : Hid (n ∉ l.take (j + 1)) := Lib.hid (by rw [HT.out]; simp [HN.out, Ne.symm he])
        go_wp2_with fail
        go_round
        all_goals first | exact ⟨j + 1, by omega, by go_num, HN2⟩ | (simp [intOf]; omega)
    · have h9 := HN.out
      rw [List.take_of_length_le (show l.length ≤ j by omega)] at h9
      have HE : Hid (decide (n ∈ l) = false) := Lib.hid (decide_eq_false h9)
      clear h9
      go_wp2_with fail
      go_ret
      exact ⟨by rw [HE.out]; rfl, rfl⟩

theorem ofI_bound (l : List Amt) (it M : Nat) (hn : ∀ a ∈ l, a.n ≤ M) : ∀ j, j ≤ l.length → ofI (l.take j) it ≤ j * M := by
  intro j
  induction j with
  | zero => intro _; simp [ofI_nil]
  | succ j ih =>
    intro hj
    have := ih (by omega)
    rw [List.take_succ_eq_append_getElem (show j < l.length by omega), ofI_append, ofI_cons, ofI_nil, Nat.succ_mul]
    have := hn l[j] (List.getElem_mem _)
    split <;> omega
set_option maxRecDepth 100000 in
set_option maxHeartbeats 1000000 in
theorem units_any (v : Value) (l : List Amt) (it : Nat) (w : World) (h : AmtsAt w v l) (hl : l.length ≤ 1000) (hn : ∀ a ∈ l, a.n ≤ 1000000) (hi : it ≤ 1000000) :
    Calls Tryz.prog 111 #[v, .int .i64 (it : Int)] w fun e w' => e = .returned (.int .i64 ((ofI l it : Nat) : Int)) ∧ w' = w := by
  obtain ⟨a, cap, rfl, h1, h2⟩ := h.form
  have HL := Lib.hid h
  have HNN := Lib.hid hn
  have HSM := Lib.hid (ofI_bound l it 1000000 hn)
  clear h hn
  go_enter Tryz.func111, Tryz.ntmps111
  go_wp2_with fail
  go_loop [5, 6] (fun s i => ∃ j : Nat, j ≤ l.length ∧ i = .int .i64 j ∧ s = .int .i64 ((ofI (l.take j) it : Nat) : Int)) (fun _ i => l.length - (intOf i).toNat)
  case atStart => exact ⟨0, by omega, rfl, by simp [ofI_nil]⟩
  case round =>
    obtain ⟨j, hj, rfl, rfl⟩ := hrel
    by_cases hlt : j < l.length
    · obtain ⟨b1, cap1, hv1, hb1, y0, y1⟩ := AmtsAt.at_ HL.out j hlt
      injection hv1 with e1 e2 e3
      subst e1
      clear e2 e3
      have hs := HSM.out j (by omega)
      have hx := HNN.out l[j] (List.getElem_mem hlt)
      have HT : Hid (ofI (l.take (j + 1)) it = ofI (l.take j) it + if l[j].item = it then l[j].n else 0) := Lib.hid (by rw [List.take_succ_eq_append_getElem hlt, ofI_append, ofI_cons, ofI_nil]; rfl)
      generalize l[j] = x at *
      obtain ⟨xi, xn⟩ := x
      simp only [] at y0 y1 hx HT
      obtain ⟨S, hS⟩ : ∃ S, ofI (l.take j) it = S := ⟨_, rfl⟩
      rw [hS] at hs HT ⊢
      by_cases he : xi = it
      · have q1 : ((xi : Int) == (it : Int)) = true := by rw [he]; simp
        have q2 : (xi == it) = true := by rw [he]; simp
        have hw : IntKind.i64.wrap ((S : Int) + (xn : Int)) = ((S + xn : Nat) : Int) := by rw [IntWalk.i64_in _ (by omega)]; omega
        rw [if_pos he] at HT
        clear he
        go_wp2_with fail
        go_round
        case rel => exact ⟨j + 1, by omega, by go_num, by rw [HT.out]; congr 1⟩
        case measure => simp [intOf]; omega
      · have q1 : ((xi : Int) == (it : Int)) = false := by simp; omega
        have q2 : (xi == it) = false := by simpa using he
        rw [if_neg he] at HT
        clear he
        go_wp2_with fail
        go_round
        case rel => exact ⟨j + 1, by omega, by go_num, by rw [HT.out]; rfl⟩
        case measure => simp [intOf]; omega
    · rw [List.take_of_length_le (show l.length ≤ j by omega)]
      go_wp2_with fail
      go_ret
      exact ⟨rfl, rfl⟩

set_option maxHeartbeats 1000000 in
theorem itemError_any (n : Tx) (w : World) : Calls Tryz.prog 96 #[itmV n] w fun e w' => e = .returned (.int .i64 0) ∧ Below w.heap.size w w' := by
  unfold itmV
  go_enter Tryz.func96, Tryz.ntmps96
  go_wp2_with fail
  go_ret
  exact ⟨rfl, (Below.refl _ _).alloc (Nat.le_refl _) _⟩

set_option maxRecDepth 100000 in
set_option maxHeartbeats 4000000 in
theorem ruleErrors_any (r : Rul) (p : Pl) (n : Nat) (w : World) (hr : RulIs w r p) (hg : GoodR n r) (hn : n ≤ 1000) : Calls Tryz.prog 97 #[rulV r p] w fun e w' => e = .returned (.tuple #[.bool false, .bool false, .bool false]) ∧ Below w.heap.size w w' := by
  have HR := Lib.hid hr
  have HG := Lib.hid hg
  obtain ⟨rn, rs, rt, ro, lt, lg, lb⟩ := r
  have ht := hg.take.len
  have hgv := hg.give.len
  have hbk := hg.back.len
  have ho1 := hg.of1
  have ho2 := hg.of2
  have htm := hg.time
  have hsp := hg.spawn
  have hpl := hg.player
  have hhb := hg.hasBack
  have hwi := hg.within
  have hc1 := hr.t1
  have hc2 := hr.g1
  have hc3 := hr.b1
  simp only [] at ht hgv hbk ho1 ho2 htm hsp hpl hhb hc1 hc2 hc3 hwi
  unfold rulV
  simp only []
  clear hr hg
  go_enter Tryz.func97, Tryz.ntmps97
  cases rs with
  | true =>
    obtain ⟨h1, h2, h3, h4⟩ := hsp rfl
    subst h1 h2 h3 h4
    clear hsp hpl hhb hwi ho1 ho2 htm ht hbk
    have q1 : decide (64 < (lg.length : Int)) = false := decide_eq_false (by omega)
    have q2 : decide (64 < (0 : Int) + (lg.length : Int)) = false := decide_eq_false (by omega)
    simp only [List.length_nil] at *
    have HB1 : Hid (Below w.heap.size w (w.alloc (.cells #[.string ⟨rn.toArray⟩, .bool true, .int .i64 0, .int .i64 0, .int .i64 1, .int .i64 1, .slice p.at_ 0 p.ct, .slice p.ag lg.length p.cg, .slice p.ab 0 p.cb] 63))) := Lib.hid ((Below.refl _ _).alloc (Nat.le_refl _) _)
    have HK1 : Hid (BlkC (w.alloc (.cells #[.string ⟨rn.toArray⟩, .bool true, .int .i64 0, .int .i64 0, .int .i64 1, .int .i64 1, .slice p.at_ 0 p.ct, .slice p.ag lg.length p.cg, .slice p.ab 0 p.cb] 63)) w.heap.size 63 [.string ⟨rn.toArray⟩, .bool true, .int .i64 0, .int .i64 0, .int .i64 1, .int .i64 1, .slice p.at_ 0 p.ct, .slice p.ag lg.length p.cg, .slice p.ab 0 p.cb]) := Lib.hid (BlkC.new _ _ _)
    go_wp2_with fail
    go_loopw [6, 7] (fun m i wr => m = .bool false ∧ i = .int .i64 0 ∧ Hid (Below w.heap.size w wr) ∧ Hid (BlkC wr w.heap.size 63 [.string ⟨rn.toArray⟩, .bool true, .int .i64 0, .int .i64 0, .int .i64 1, .int .i64 1, .slice p.at_ 0 p.ct, .slice p.ag lg.length p.cg, .slice p.ab 0 p.cb])) (fun _ _ _ => 0)
    case atStart => exact ⟨rfl, rfl, HB1, HK1⟩
    case round =>
      obtain ⟨rfl, rfl, HB2, HK2⟩ := hrel
      have m2 := HK2.out.cell 2
      have m3 := HK2.out.cell 3
      have m4 := HK2.out.cell 4
      have m5 := HK2.out.cell 5
      have m8 := HK2.out.cell 8
      simp only [List.getElem?_cons_succ, List.getElem?_cons_zero] at m2 m3 m4 m5 m8
      go_wp2_with fail
      go_ret3
      exact ⟨rfl, HB2.out⟩
  | false =>
    by_cases ht0 : lt = []
    · have h1 : rt = 1 := (hpl rfl).resolve_left (fun h => h ht0)
      have h2 : lb = [] := by rcases hwi with h | h; exact h; rw [h, ht0]
      subst ht0 h1 h2
      clear hsp hpl hhb hwi htm ht hbk
      have q1 : decide (64 < (lg.length : Int)) = false := decide_eq_false (by omega)
      have q2 : decide (64 < (0 : Int) + (lg.length : Int)) = false := decide_eq_false (by omega)
      have qc : decide ((ro : Int) < 1) = false := decide_eq_false (by omega)
      have qd : decide (1000000 < (ro : Int)) = false := decide_eq_false (by omega)
      simp only [List.length_nil] at *
      have HB1 : Hid (Below w.heap.size w (w.alloc (.cells #[.string ⟨rn.toArray⟩, .bool false, .int .i64 0, .int .i64 1, .int .i64 1, .int .i64 ro, .slice p.at_ 0 p.ct, .slice p.ag lg.length p.cg, .slice p.ab 0 p.cb] 63))) := Lib.hid ((Below.refl _ _).alloc (Nat.le_refl _) _)
      have HK1 : Hid (BlkC (w.alloc (.cells #[.string ⟨rn.toArray⟩, .bool false, .int .i64 0, .int .i64 1, .int .i64 1, .int .i64 ro, .slice p.at_ 0 p.ct, .slice p.ag lg.length p.cg, .slice p.ab 0 p.cb] 63)) w.heap.size 63 [.string ⟨rn.toArray⟩, .bool false, .int .i64 0, .int .i64 1, .int .i64 1, .int .i64 ro, .slice p.at_ 0 p.ct, .slice p.ag lg.length p.cg, .slice p.ab 0 p.cb]) := Lib.hid (BlkC.new _ _ _)
      go_wp2_with fail
      go_loopw [6, 7] (fun m i wr => m = .bool false ∧ i = .int .i64 0 ∧ Hid (Below w.heap.size w wr) ∧ Hid (BlkC wr w.heap.size 63 [.string ⟨rn.toArray⟩, .bool false, .int .i64 0, .int .i64 1, .int .i64 1, .int .i64 ro, .slice p.at_ 0 p.ct, .slice p.ag lg.length p.cg, .slice p.ab 0 p.cb])) (fun _ _ _ => 0)
      case atStart => exact ⟨rfl, rfl, HB1, HK1⟩
      case round =>
        obtain ⟨rfl, rfl, HB2, HK2⟩ := hrel
        have m2 := HK2.out.cell 2
        have m3 := HK2.out.cell 3
        have m4 := HK2.out.cell 4
        have m5 := HK2.out.cell 5
        have m8 := HK2.out.cell 8
        simp only [List.getElem?_cons_succ, List.getElem?_cons_zero] at m2 m3 m4 m5 m8
        go_wp2_with fail
        go_ret3
        exact ⟨rfl, HB2.out⟩
    · have h1 : 0 < lt.length := List.length_pos_iff.2 ht0
      have e1 : ((lt.length : Int) == 0) = false := by simp; omega
      have e2 : (lt.length == 0) = false := by simp; omega
      have q8 : decide (64 < (lt.length : Int) + (lg.length : Int)) = false := decide_eq_false (by omega)
      have q9 : decide (64 < (lt.length : Int) + (lb.length : Int)) = false := decide_eq_false (by omega)
      have qa : decide ((rt : Int) < 0) = false := decide_eq_false (by omega)
      have qb : decide (1000000 < (rt : Int)) = false := decide_eq_false (by omega)
      have qc : decide ((ro : Int) < 1) = false := decide_eq_false (by omega)
      have qd : decide (1000000 < (ro : Int)) = false := decide_eq_false (by omega)
      have w8 : IntKind.i64.wrap ((lt.length : Int) + (lg.length : Int)) = (lt.length : Int) + (lg.length : Int) := IntWalk.i64_in _ (by omega)
      have w9 : IntKind.i64.wrap ((lt.length : Int) + (lb.length : Int)) = (lt.length : Int) + (lb.length : Int) := IntWalk.i64_in _ (by omega)
      by_cases hb0 : lb = []
      · subst hb0
        clear hsp hpl hhb hwi hbk
        have q7 : decide (64 < (lt.length : Int)) = false := decide_eq_false (by omega)
        have q6 : decide (64 < (lt.length : Int) + (0 : Int)) = false := decide_eq_false (by omega)
        simp only [List.length_nil] at *
        have HB1 : Hid (Below w.heap.size w (w.alloc (.cells #[.string ⟨rn.toArray⟩, .bool false, .int .i64 0, .int .i64 rt, .int .i64 1, .int .i64 ro, .slice p.at_ lt.length p.ct, .slice p.ag lg.length p.cg, .slice p.ab 0 p.cb] 63))) := Lib.hid ((Below.refl _ _).alloc (Nat.le_refl _) _)
        have HK1 : Hid (BlkC (w.alloc (.cells #[.string ⟨rn.toArray⟩, .bool false, .int .i64 0, .int .i64 rt, .int .i64 1, .int .i64 ro, .slice p.at_ lt.length p.ct, .slice p.ag lg.length p.cg, .slice p.ab 0 p.cb] 63)) w.heap.size 63 [.string ⟨rn.toArray⟩, .bool false, .int .i64 0, .int .i64 rt, .int .i64 1, .int .i64 ro, .slice p.at_ lt.length p.ct, .slice p.ag lg.length p.cg, .slice p.ab 0 p.cb]) := Lib.hid (BlkC.new _ _ _)
        go_wp2_with fail
        go_loopw [6, 7] (fun m i wr => m = .bool false ∧ i = .int .i64 0 ∧ Hid (Below w.heap.size w wr) ∧ Hid (BlkC wr w.heap.size 63 [.string ⟨rn.toArray⟩, .bool false, .int .i64 0, .int .i64 rt, .int .i64 1, .int .i64 ro, .slice p.at_ lt.length p.ct, .slice p.ag lg.length p.cg, .slice p.ab 0 p.cb])) (fun _ _ _ => 0)
        case atStart => exact ⟨rfl, rfl, HB1, HK1⟩
        case round =>
          obtain ⟨rfl, rfl, HB2, HK2⟩ := hrel
          have m2 := HK2.out.cell 2
          have m3 := HK2.out.cell 3
          have m4 := HK2.out.cell 4
          have m5 := HK2.out.cell 5
          have m8 := HK2.out.cell 8
          simp only [List.getElem?_cons_succ, List.getElem?_cons_zero] at m2 m3 m4 m5 m8
          go_wp2_with fail
          go_ret3
          exact ⟨rfl, HB2.out⟩
      · have h2 := hhb hb0
        obtain rfl : lb = lt := hwi.resolve_left hb0
        have g1 : ((1 : Int) == (ro : Int)) = false := by simp; omega
        clear hsp hpl hhb hwi hb0 h2
        have HB1 : Hid (Below w.heap.size w (w.alloc (.cells #[.string ⟨rn.toArray⟩, .bool false, .int .i64 0, .int .i64 rt, .int .i64 1, .int .i64 ro, .slice p.at_ lb.length p.ct, .slice p.ag lg.length p.cg, .slice p.ab lb.length p.cb] 63))) := Lib.hid ((Below.refl _ _).alloc (Nat.le_refl _) _)
        have HK1 : Hid (BlkC (w.alloc (.cells #[.string ⟨rn.toArray⟩, .bool false, .int .i64 0, .int .i64 rt, .int .i64 1, .int .i64 ro, .slice p.at_ lb.length p.ct, .slice p.ag lg.length p.cg, .slice p.ab lb.length p.cb] 63)) w.heap.size 63 [.string ⟨rn.toArray⟩, .bool false, .int .i64 0, .int .i64 rt, .int .i64 1, .int .i64 ro, .slice p.at_ lb.length p.ct, .slice p.ag lg.length p.cg, .slice p.ab lb.length p.cb]) := Lib.hid (BlkC.new _ _ _)
        have q1 : decide (0 < (lb.length : Int)) = true := decide_eq_true (by omega)
        have q2 : decide (0 < lb.length) = true := decide_eq_true (by omega)
        go_wp2_with fail
        go_loopw [6, 7] (fun m i wr => ∃ j : Nat, j ≤ lb.length ∧ m = .bool false ∧ i = .int .i64 j ∧ Hid (Below w.heap.size w wr) ∧ Hid (BlkC wr w.heap.size 63 [.string ⟨rn.toArray⟩, .bool false, .int .i64 0, .int .i64 rt, .int .i64 1, .int .i64 ro, .slice p.at_ lb.length p.ct, .slice p.ag lg.length p.cg, .slice p.ab lb.length p.cb])) (fun _ i _ => lb.length - (intOf i).toNat)
        case atStart => exact ⟨0, by omega, rfl, rfl, HB1, HK1⟩
        case round =>
          obtain ⟨j, hj, rfl, rfl, HB2, HK2⟩ := hrel
          have m8 := HK2.out.cell 8
          have m6 := HK2.out.cell 6
          simp only [List.getElem?_cons_succ, List.getElem?_cons_zero] at m6 m8
          have mlt := HK2.out.lt
          by_cases hlt : j < lb.length
          · have HT2 := Lib.hid (HR.out.take.below HB2.out)
            have HA2 := Lib.hid (HR.out.back.below HB2.out)
            simp only [] at HT2 HA2
            obtain ⟨b3, cap3, hv3, hb3, y0, y1⟩ := AmtsAt.at_ HA2.out j hlt
            injection hv3 with e1 e2 e3
            have hit := HG.out.back.all lb[j] (List.getElem_mem hlt)
            have hna := HG.out.back.all
            simp only [] at hit hna
            have HNA : Hid (∀ a ∈ lb, a.n ≤ 1000000) := Lib.hid (fun a ha => by have := hna a ha; omega)
            generalize lb[j] = x at *
            obtain ⟨xi, xn⟩ := x
            simp only [] at y0 y1 hit
            rw [e1] at m8 HA2
            clear e1 e2 e3 hna y1
            have q5 : decide (((ofI lb xi : Nat) : Int) < ((ofI lb xi : Nat) : Int)) = false := decide_eq_false (by omega)
            have i1 : (j : Int) < (lb.length : Int) := by omega
            go_wp2_with fail
            refine startK 99 (fun W => W.cell? ⟨w.heap.size, 6, none⟩ = some (.slice p.at_ lb.length p.ct) ∧ W.cell? ⟨w.heap.size, 8, none⟩ = some (.slice (some ⟨b3, 0, none⟩) lb.length p.cb) ∧ W.cell? ⟨b3, j * 2, none⟩ = some (.int .i64 (xi : Int))) (by kernel_rfl) (⟨m6, m8, y0⟩) (fun hHeld => ?_)
            refine takeK 0 86 (v := ?_) rfl rfl (by kernel_rfl) (by kernel_rfl) (by kernel_rfl) (by kernel_rfl) (fun _ _ _ h => h) (by rfl) ?_ (by assumption) ?_
            rotate_left
            · (intro w hSw; go_simp; first | done | with_reducible rfl)
            simp only [List.setIfInBounds_toArray, List.set_cons_zero, List.set_cons_succ]
            refine takeK 1 87 (v := ?_) rfl rfl (by kernel_rfl) (by kernel_rfl) (by kernel_rfl) (by kernel_rfl) (fun _ _ _ h => h) (by rfl) ?_ (by assumption) ?_
            rotate_left
            · (intro w hSw; go_simp; first | done | with_reducible rfl)
            simp only [List.setIfInBounds_toArray, List.set_cons_zero, List.set_cons_succ]
            refine takeK 2 88 (v := ?_) rfl rfl (by kernel_rfl) (by kernel_rfl) (by kernel_rfl) (by kernel_rfl) (fun _ _ _ h => h) (by rfl) ?_ (by assumption) ?_
            rotate_left
            · (intro w hSw; go_simp; first | done | with_reducible rfl)
            simp only [List.setIfInBounds_toArray, List.set_cons_zero, List.set_cons_succ]
            refine takeK 3 89 (v := ?_) rfl rfl (by kernel_rfl) (by kernel_rfl) (by kernel_rfl) (by kernel_rfl) (fun _ _ _ h => h) (by rfl) ?_ (by assumption) ?_
            rotate_left
            · (intro w hSw; go_simp; first | done | with_reducible rfl)
            simp only [List.setIfInBounds_toArray, List.set_cons_zero, List.set_cons_succ]
            refine takeK 4 90 (v := ?_) rfl rfl (by kernel_rfl) (by kernel_rfl) (by kernel_rfl) (by kernel_rfl) (fun _ _ _ h => h) (by rfl) ?_ (by assumption) ?_
            rotate_left
            · (intro w hSw; go_simp; first | done | with_reducible rfl)
            simp only [List.setIfInBounds_toArray, List.set_cons_zero, List.set_cons_succ]
            refine takeK 5 91 (v := ?_) rfl rfl (by kernel_rfl) (by kernel_rfl) (by kernel_rfl) (by kernel_rfl) (fun _ _ _ h => h) (by rfl) ?_ (by assumption) ?_
            rotate_left
            · (intro w hSw; go_simp; first | done | with_reducible rfl)
            simp only [List.setIfInBounds_toArray, List.set_cons_zero, List.set_cons_succ]
            refine takeK 6 92 (v := ?_) rfl rfl (by kernel_rfl) (by kernel_rfl) (by kernel_rfl) (by kernel_rfl) (fun _ _ _ h => h) (by rfl) ?_ (by assumption) ?_
            rotate_left
            · (intro w hSw; go_simp; first | done | with_reducible rfl)
            simp only [List.setIfInBounds_toArray, List.set_cons_zero, List.set_cons_succ]
            refine takeK 7 93 (v := ?_) rfl rfl (by kernel_rfl) (by kernel_rfl) (by kernel_rfl) (by kernel_rfl) (fun _ _ _ h => h) (by rfl) ?_ (by assumption) ?_
            rotate_left
            · (intro w hSw; go_simp; first | done | with_reducible rfl)
            simp only [List.setIfInBounds_toArray, List.set_cons_zero, List.set_cons_succ]
            refine takeK 8 94 (v := ?_) rfl rfl (by kernel_rfl) (by kernel_rfl) (by kernel_rfl) (by kernel_rfl) (fun _ _ _ h => h) (by rfl) ?_ (by assumption) ?_
            rotate_left
            · (intro w hSw; go_simp; first | done | with_reducible rfl)
            simp only [List.setIfInBounds_toArray, List.set_cons_zero, List.set_cons_succ]
            refine takeK 9 95 (v := ?_) rfl rfl (by kernel_rfl) (by kernel_rfl) (by kernel_rfl) (by kernel_rfl) (fun _ _ _ h => h) (by rfl) ?_ (by assumption) ?_
            rotate_left
            · (intro w hSw; go_simp; first | done | with_reducible rfl)
            simp only [List.setIfInBounds_toArray, List.set_cons_zero, List.set_cons_succ]
            refine takeK 11 97 (v := ?_) rfl rfl (by kernel_rfl) (by kernel_rfl) (by kernel_rfl) (by kernel_rfl) (fun _ _ _ h => h) (by rfl) ?_ (by assumption) ?_
            rotate_left
            · (intro w hSw; go_simp; first | done | with_reducible rfl)
            simp only [List.setIfInBounds_toArray, List.set_cons_zero, List.set_cons_succ]
            refine takeK 12 98 (v := ?_) rfl rfl (by kernel_rfl) (by kernel_rfl) (by kernel_rfl) (by kernel_rfl) (fun _ _ _ h => h) (by rfl) ?_ (by assumption) ?_
            rotate_left
            · (intro w hSw; go_simp; first | done | with_reducible rfl)
            simp only [List.setIfInBounds_toArray, List.set_cons_zero, List.set_cons_succ]
            refine takeK 13 99 (v := ?_) rfl rfl (by kernel_rfl) (by kernel_rfl) (by kernel_rfl) (by kernel_rfl) (fun _ _ _ h => h) (by rfl) ?_ (by assumption) ?_
            rotate_left
            · (intro w hSw; go_simp; first | done | with_reducible rfl)
            simp only [List.setIfInBounds_toArray, List.set_cons_zero, List.set_cons_succ]
            refine takeK 14 100 (v := ?_) rfl rfl (by kernel_rfl) (by kernel_rfl) (by kernel_rfl) (by kernel_rfl) (fun _ _ _ h => h) (by rfl) ?_ (by assumption) ?_
            rotate_left
            · (intro w hSw; go_simp; first | done | with_reducible rfl)
            simp only [List.setIfInBounds_toArray, List.set_cons_zero, List.set_cons_succ]
            refine takeK 15 101 (v := ?_) rfl rfl (by kernel_rfl) (by kernel_rfl) (by kernel_rfl) (by kernel_rfl) (fun _ _ _ h => h) (by rfl) ?_ (by assumption) ?_
            rotate_left
            · (intro w hSw; go_simp; first | done | with_reducible rfl)
            simp only [List.setIfInBounds_toArray, List.set_cons_zero, List.set_cons_succ]
            refine takeK 16 102 (v := ?_) rfl rfl (by kernel_rfl) (by kernel_rfl) (by kernel_rfl) (by kernel_rfl) (fun _ _ _ h => h) (by rfl) ?_ (by assumption) ?_
            rotate_left
            · (intro w hSw; go_simp; first | done | with_reducible rfl)
            simp only [List.setIfInBounds_toArray, List.set_cons_zero, List.set_cons_succ]
            refine takeK 17 103 (v := ?_) rfl rfl (by kernel_rfl) (by kernel_rfl) (by kernel_rfl) (by kernel_rfl) (fun _ _ _ h => h) (by rfl) ?_ (by assumption) ?_
            rotate_left
            · (intro w hSw; go_simp; first | done | with_reducible rfl)
            simp only [List.setIfInBounds_toArray, List.set_cons_zero, List.set_cons_succ]
            refine takeK 18 104 (v := ?_) rfl rfl (by kernel_rfl) (by kernel_rfl) (by kernel_rfl) (by kernel_rfl) (fun _ _ _ h => h) (by rfl) ?_ (by assumption) ?_
            rotate_left
            · (intro w hSw; go_simp; first | done | with_reducible rfl)
            simp only [List.setIfInBounds_toArray, List.set_cons_zero, List.set_cons_succ]
            refine stepK 10 (by kernel_rfl) rfl (fun K hK => ?_)
            go_simp
            refine (units_any _ lb xi _ (AmtsAt.below HA2.out (Below.refl _ _).drew) (by omega) HNA.out (by omega)).mono ?_
            rintro e w5 ⟨rfl, hw5⟩
            rw [hw5]
            clear hHeld
            go_wp2_with fail
            refine hK.out _ _ (⟨m6, m8, y0⟩) (fun hHeld => ?_)
            clear hK K
            try simp only [Act.put, List.setIfInBounds_toArray, List.set_cons_zero, List.set_cons_succ]
            refine stepK 19 (by kernel_rfl) rfl (fun K hK => ?_)
            go_simp
            refine (units_any _ lb xi _ (AmtsAt.below HT2.out (Below.refl _ _).drew) (by omega) HNA.out (by omega)).mono ?_
            rintro e w6 ⟨rfl, hw6⟩
            rw [hw6]
            clear hHeld
            go_wp2_with fail
            refine hK.out _ _ (⟨m6, m8, y0⟩) (fun hHeld => ?_)
            clear hK K
            try simp only [Act.put, List.setIfInBounds_toArray, List.set_cons_zero, List.set_cons_succ]
            refine takeK 20 106 (v := ?_) rfl rfl (by kernel_rfl) (by kernel_rfl) (by kernel_rfl) (by kernel_rfl) (fun _ _ _ h => h) (by rfl) ?_ (by assumption) ?_
            rotate_left
            · (intro w hSw; go_simp; first | done | with_reducible rfl)
            simp only [List.setIfInBounds_toArray, List.set_cons_zero, List.set_cons_succ]
            refine takeK 21 107 (v := ?_) rfl rfl (by kernel_rfl) (by kernel_rfl) (by kernel_rfl) (by kernel_rfl) (fun _ _ _ h => h) (by rfl) ?_ (by assumption) ?_
            rotate_left
            · (intro w hSw; go_simp; first | done | with_reducible rfl)
            simp only [List.setIfInBounds_toArray, List.set_cons_zero, List.set_cons_succ]
            refine takeK 22 6 (v := ?_) rfl rfl (by kernel_rfl) (by kernel_rfl) (by kernel_rfl) (by kernel_rfl) (fun _ _ _ h => h) (by rfl) ?_ (by assumption) ?_
            rotate_left
            · (intro w hSw; go_simp; first | done | with_reducible rfl)
            simp only [List.setIfInBounds_toArray, List.set_cons_zero, List.set_cons_succ]
            refine doneK (by kernel_rfl) ?_ _
            clear hHeld
            go_wp2_with fail
            go_roundw
            case rel => exact ⟨j + 1, by omega, rfl, by go_num, Lib.hid HB2.out.drew, Lib.hid HK2.out.drew⟩
            case measure => simp [intOf]; omega
          · obtain rfl : lb.length = j := by omega
            have m2 := HK2.out.cell 2
            have m3 := HK2.out.cell 3
            have m4 := HK2.out.cell 4
            have m5 := HK2.out.cell 5
            simp only [List.getElem?_cons_succ, List.getElem?_cons_zero] at m2 m3 m4 m5
            go_wp2_with fail
            go_ret3
            exact ⟨rfl, HB2.out⟩
end Go.Proofs.YtfpcgjgkbniofaaGreatDoor
