/- gain.sequences: the iterator, for every round that keeps its word. -/
import Derived.Test.YtfpcgjgkbniofaaGreatDoorGNet2
import Derived.Test.YtfpcgjgkbniofaaGreatDoorRegRound
set_option linter.unusedVariables false
set_option linter.unusedSimpArgs false
namespace Go.Proofs.YtfpcgjgkbniofaaGreatDoor
open Go.RowKit Go.Shelf
attribute [local go_sem] Oper.semAt_some

def ptr (b : Nat) : Value := .pointer (some ⟨b, 0, none⟩)
def natV (i : Nat) : Value := .int .i64 (i : Int)

/-- what lies from block n0 on is as it was -/
def KeepsUp (n0 : Nat) (W W' : World) : Prop := W.heap.size ≤ W'.heap.size ∧ ∀ b, n0 ≤ b → b < W.heap.size → W'.heap[b]? = W.heap[b]?

/-- the iterator's own boxes: yield, the sequence, extend; the sequence reads as pre -/
structure SeqSt (n0 l bi : Nat) (pre : List Nat) (W : World) : Prop where
  y : One W n0 75 (.func (.yield l) #[] #[])
  x : One W (n0 + 2) 120 (.func (.func 92) #[] #[ptr n0, ptr (n0 + 1), ptr bi, ptr (n0 + 2)])
  s : ∃ a c, One W (n0 + 1) 22 (.slice a pre.length c) ∧ c ≤ 9223372036854775807 ∧ pre.length ≤ c ∧ W.ownsRow (n0 + 3) 3 1 (.slice a pre.length c) pre.length (pre.map natV)

theorem One.up {n0 : Nat} {W W' : World} {b : Nat} {t : TypeId} {v : Value} (h : One W b t v) (hk : KeepsUp n0 W W') (hb : n0 ≤ b) : One W' b t v := (hk.2 b hb h.lt).trans h
theorem own_up {n0 base : Nat} {W W' : World} {e k n : Nat} {v : Value} {xs : List Value} (h : W.ownsRow base e k v n xs) (hk : KeepsUp n0 W W') (hb : n0 ≤ base) : W'.ownsRow base e k v n xs := by
  obtain ⟨hl, ho⟩ := h
  refine ⟨hl, ?_⟩
  rcases ho with ho | ⟨g, cap, cur, hv, hg, hh, hr⟩
  · exact .inl ho
  · exact .inr ⟨g, cap, cur, hv, hg, (hk.2 g (by omega) (Array.getElem?_eq_some_iff.1 hh).1).trans hh, hr⟩
theorem SeqSt.up {n0 l bi : Nat} {pre : List Nat} {W W' : World} (h : SeqSt n0 l bi pre W) (hk : KeepsUp n0 W W') : SeqSt n0 l bi pre W' := by
  obtain ⟨hy, hx, a, c, h1, h2, h3, h4⟩ := h
  exact ⟨hy.up hk (by omega), hx.up hk (by omega), a, c, h1.up hk (by omega), h2, h3, own_up h4 hk (by omega)⟩

/-- what a round has to keep -/
structure Env (n0 l bi bm : Nat) (au : Option Addr) (cu : Nat) (U : List Nat) (most : Nat) (J : Nat → World → Prop) (Jx : World → Prop) : Prop where
  hA : ∀ k W W', J k W → Below n0 W W' → J k W'
  hAx : ∀ W W', Jx W → Only (fun b => b = n0 + 1) W W' → Jx W'
  hR : ∀ k W, J k W → n0 ≤ W.heap.size ∧ W.cell? ⟨bi, 0, none⟩ = some (.slice au U.length cu) ∧ NatsOf W (.slice au U.length cu) U ∧ W.cell? ⟨bm, 0, none⟩ = some (.int .i64 most)
  hb : bi < n0 ∧ bm < n0 ∧ l < n0
  hu : U.length ≤ 16 ∧ U.length ≤ cu ∧ cu ≤ 9223372036854775807 ∧ (∀ i ∈ U, i ≤ 1000) ∧ most ≤ 8
  hub : ∀ b o, au = some ⟨b, o, none⟩ → b < n0
  hY : ∀ k s v W, (seqs U most)[k]? = some s → J k W → W.ownsRow (n0 + 3) 3 1 v s.length (s.map natV) → YieldAt Fence.wide 29 Tryz.prog l #[v] W fun e W' =>
    ((e = .returned (.bool true) ∧ J (k + 1) W') ∨ (e = .returned (.bool false) ∧ Jx W')) ∧ KeepsUp n0 W W'

def ExtPost (n0 l bi : Nat) (J : Nat → World → Prop) (Jx : World → Prop) (k : Nat) (pre : List Nat) (e : Ending) (W' : World) : Prop :=
  ((e = .returned (.bool true) ∧ J k W') ∨ (e = .returned (.bool false) ∧ Jx W')) ∧ SeqSt n0 l bi pre W'

theorem nats_of_own {w : World} {base : Nat} {e : TypeId} {v : Value} {l : List Nat} (h : w.ownsRow base e 1 v l.length (l.map natV)) : NatsOf w v l := by
  refine SliceOf.of_own (css := l.map (fun a => [natV a])) (base := base) (e := e) (by rw [flatten_one, List.length_map]; exact h) (by simp) (by simp) ?_
  intro j h1 h2
  simp [natV, zv]

set_option maxHeartbeats 1000000 in
theorem ext_zero {n0 l bi bm : Nat} {au : Option Addr} {cu : Nat} {U : List Nat} {most : Nat} {J : Nat → World → Prop} {Jx : World → Prop} (E : Env n0 l bi bm au cu U most J Jx)
    (fr k : Nat) (pre : List Nat) (W : World) (hJ : J k W) (hS : SeqSt n0 l bi pre W) (hk : (seqs U most)[k]? = some pre) :
    Calls Tryz.prog 92 #[natV fr, natV 0, ptr n0, ptr (n0 + 1), ptr bi, ptr (n0 + 2)] W (ExtPost n0 l bi J Jx (k + 1) pre) := by
  refine (callsIn_wide (n := 30)).1 ?_
  have HS := Lib.hid hS
  obtain ⟨hy, hx, a, c, h1, h2, h3, h4⟩ := hS
  have c0 := hy.cell
  have c1 := h1.cell
  obtain ⟨fn, tmps, assign, body, hyy, hR⟩ := E.hY k pre (.slice a pre.length c) W hk hJ h4
  have HR := Lib.hid hR
  clear hR hJ hy hx h1 h4
  unfold ptr natV
  refine callsIn_of_wp Tryz.func92 rfl trivial ?_ rfl
  simp only [Tryz.ntmps92, List.size_toArray, List.length_cons, List.length_nil, Nat.reduceAdd, Nat.reduceSub, Array.replicate_succ, Array.replicate_zero, List.push_toArray, List.append_toArray, List.nil_append, List.cons_append]
  gi_wp2
  refine HR.out.mono ?_
  rintro e W3 ⟨⟨rfl, hj⟩ | ⟨rfl, hj⟩, hK⟩
  · gi_wp2
    go_ret
    exact ⟨.inl ⟨rfl, hj⟩, HS.out.up hK⟩
  · gi_wp2
    go_ret
    exact ⟨.inr ⟨rfl, hj⟩, HS.out.up hK⟩

/-- one element less -/
theorem own_shrink {W : World} {base e : Nat} {g n cap : Nat} {xs : List Value} {u : Value} (h : W.ownsRow base e 1 (.slice (some ⟨g, 0, none⟩) (n + 1) cap) (n + 1) (xs ++ [u])) : W.ownsRow base e 1 (.slice (some ⟨g, 0, none⟩) n cap) n xs := by
  obtain ⟨hl, ho⟩ := h
  have hl' : xs.length = n * 1 := by rw [List.length_append, List.length_singleton] at hl; omega
  refine ⟨hl', ?_⟩
  rcases ho with ⟨hv, _⟩ | ⟨g', cap', cur, hv, hb, hh, hn, hm, hs, ht⟩
  · cases hv
  · injection hv with e1 e2 e3
    refine .inr ⟨g', cap', cur, by rw [e1, e3], hb, hh, by omega, hm, hs, ?_⟩
    have h3 := congrArg (List.take n) ht
    rw [List.take_take, List.take_append_of_le_length (by omega), show xs.take n = xs from List.take_of_length_le (by omega), show min n ((n + 1) * 1) = n by omega] at h3
    rw [Nat.mul_one]
    exact h3

/-- append(s, x) of one element, at a step of a region -/
theorem step_app1 {P : Program} {W0 w : World} {ops : Array Oper} {o : Oper} {a : Act} {K : Act → World → Prop} {Q : Exit → Act → World → Prop} {E : Prop} {B k bytes : Nat} {t e : TypeId} (hE : Elem P t e k bytes) (hgd : o.guard = none) (s x : Operand)
    (ho : o.op = .call { callee := .builtin .append, args := #[s, x], argTypes := #[t, t] }) (cs : List Value) (g0 : Nat)
    (v : Value) (n : Nat) (xs : List Value) (hs : a.eval s = v) (hx : a.eval x = .slice (some ⟨g0, 0, none⟩) 1 1) (hg0 : BlkC w g0 e cs) (hcs : cs.length = k) (h1 : ∀ u ∈ cs, u.oneCell' = true)
    (hown : w.ownsRow B e k v n xs) (hB : Below B W0 w) (hle : B ≤ w.heap.size) (hn : n ≤ 1000000000) (hby : bytes ≤ 1000)
    (h : ∀ g cap w', Hid (w'.ownsRow B e k (.slice (some ⟨g, 0, none⟩) (n + 1) cap) (n + 1) (xs ++ cs)) → Hid (Below B W0 w') → Hid (Only (fun b => v.ownBlock = some b) w w') → cap ≤ 9223372036854775807 → n + 1 ≤ cap → K (a.put o.dst (.slice (some ⟨g, 0, none⟩) (n + 1) cap)) w') :
    if Region.wanted o (yielded ops a.tmps) = true then Oper.wp P o a w K Q else E := by
  obtain ⟨ht, i, z, hi, hz, hsize, hbyt, hzs, hk⟩ := hE
  have hcap : (n + 1) * bytes ≤ 140737488355328 := Nat.le_trans (Nat.mul_le_mul (show n + 1 ≤ 1000000001 by omega) hby) (by decide)
  refine step_append_lies w hgd s x t ho B e i z k bytes ht hi hz hsize hbyt hzs hk v n xs hs hown ⟨g0, 0, none⟩ 1 1 cs hx (by rw [Nat.one_mul]; exact hcs) ?_ h1 (by omega) (by unfold maxLen; omega) hcap hle w.heap.size rfl ?_
  · intro j u hu
    have hadd : (⟨g0, 0, none⟩ : Addr).add j = ⟨g0, j, none⟩ := by unfold Addr.add; split <;> simp_all
    rw [hadd, hg0.cell]
    exact hu
  · intro g cap w' ho' hg hat hlt
    have hO := only_of_grown hg
    have hc2 : cap ≤ 9223372036854775807 ∧ n + 1 ≤ cap := by
      rcases ho'.2 with ⟨hv, _⟩ | ⟨_, _, _, hv, _, _, h4, h3, _⟩
      · cases hv
      · injection hv with _ _ e
        unfold maxLen at h3
        omega
    exact h g cap w' (Lib.hid ho') (Lib.hid (hO.below hB hle (fun k e => (hown.lt k e).1))) (Lib.hid hO) hc2.1 hc2.2

theorem ext_first {S : List (List Nat)} {f : List Nat → List (List Nat)} {ux kj : Nat} {r pre : List Nat} (h : ∀ q (h : q < (extL f (ux :: r)).length), S[kj + q]? = some (pre ++ (extL f (ux :: r))[q])) :
    (∀ q (h : q < (f (ux :: r)).length), S[kj + q]? = some ((pre ++ [ux]) ++ (f (ux :: r))[q])) ∧ (∀ q (h : q < (extL f r).length), S[kj + (f (ux :: r)).length + q]? = some (pre ++ (extL f r)[q])) ∧ (extL f (ux :: r)).length = (f (ux :: r)).length + (extL f r).length := by
  have hl : (extL f (ux :: r)).length = (f (ux :: r)).length + (extL f r).length := by rw [extL, List.length_append, List.length_map]
  refine ⟨fun q hq => ?_, fun q hq => ?_, hl⟩
  · have := h q (by omega)
    rw [this]
    simp only [extL]
    rw [List.getElem_append_left (by rw [List.length_map]; exact hq)]
    simp
  · have := h ((f (ux :: r)).length + q) (by omega)
    rw [Nat.add_assoc, this]
    simp only [extL]
    rw [List.getElem_append_right (by rw [List.length_map]; omega)]
    simp

def extArgs (fr m n0 bi : Nat) : Array Value := #[.int .i64 (fr : Int), .int .i64 (m : Int), .pointer (some ⟨n0, 0, none⟩), .pointer (some ⟨n0 + 1, 0, none⟩), .pointer (some ⟨bi, 0, none⟩), .pointer (some ⟨n0 + 2, 0, none⟩)]

set_option maxRecDepth 100000 in
set_option maxHeartbeats 4000000 in
theorem ext_succ {n0 l bi bm : Nat} {au : Option Addr} {cu : Nat} {U : List Nat} {most : Nat} {J : Nat → World → Prop} {Jx : World → Prop} (E : Env n0 l bi bm au cu U most J Jx) (m : Nat)
    (IH : ∀ (fr k : Nat) (pre : List Nat) (W : World), fr ≤ U.length → pre.length + m ≤ 8 → J k W → SeqSt n0 l bi pre W → (∀ j (h : j < (ext m (U.drop fr)).length), (seqs U most)[k + j]? = some (pre ++ (ext m (U.drop fr))[j])) → Calls Tryz.prog 92 (extArgs fr m n0 bi) W (ExtPost n0 l bi J Jx (k + (ext m (U.drop fr)).length) pre))
    (fr k : Nat) (pre : List Nat) (W : World) (hfr : fr ≤ U.length) (hpm : pre.length + (m + 1) ≤ 8) (hJ : J k W) (hS : SeqSt n0 l bi pre W) (hk : ∀ j (h : j < (ext (m + 1) (U.drop fr)).length), (seqs U most)[k + j]? = some (pre ++ (ext (m + 1) (U.drop fr))[j])) :
    Calls Tryz.prog 92 (extArgs fr (m + 1) n0 bi) W (ExtPost n0 l bi J Jx (k + (ext (m + 1) (U.drop fr)).length) pre) := by
  have HIH := Lib.hid IH
  have HJ := Lib.hid hJ
  have HS := Lib.hid hS
  have HK := Lib.hid hk
  obtain ⟨hbi, hbm, hll⟩ := E.hb
  obtain ⟨hu1, hu2, hu3, hu4, hu5⟩ := E.hu
  have HU4 := Lib.hid hu4
  have HE := Lib.hid E
  obtain ⟨M, hM⟩ : ∃ M, m + 1 = M := ⟨_, rfl⟩
  have hq : ((M : Int) == 0) = false := by simp; omega
  have hm1 : (M : Int) - 1 = (m : Int) := by omega
  have hM0 : 1 ≤ M := by omega
  have hM8 : M ≤ 8 := by omega
  have HLn : Hid ((ext (m + 1) (U.drop fr)).length = (ext M (U.drop fr)).length) := Lib.hid (by rw [hM])
  clear IH hJ hS hk E hu4
  unfold extArgs
  rw [hM]
  clear hM
  go_enter Tryz.func92, Tryz.ntmps92
  go_wp2_with fail
  go_loopw [9] (fun i wr => ∃ (j kj : Nat), fr ≤ j ∧ j ≤ U.length ∧ i = .int .i64 j ∧ Hid (J kj wr) ∧ Hid (SeqSt n0 l bi pre wr) ∧ Hid (kj + (extL (ext m) (U.drop j)).length = k + (ext M (U.drop fr)).length) ∧ Hid (∀ q (h : q < (extL (ext m) (U.drop j)).length), (seqs U most)[kj + q]? = some (pre ++ (extL (ext m) (U.drop j))[q]))) (fun i _ => U.length - (intOf i).toNat)
  case atStart => exact ⟨fr, k, Nat.le_refl _, hfr, rfl, HJ, HS, Lib.hid (by rw [← HLn.out]; rfl), HK⟩
  case round =>
    clear HJ HS HK
    obtain ⟨j, kj, hj1, hj2, rfl, HJ, HS, HC, HK⟩ := hrel
    obtain ⟨hn0, x1, hnats, x2⟩ := HE.out.hR _ _ HJ.out
    have HN := Lib.hid hnats
    clear hnats
    obtain ⟨hy, hx, a, c, h1, h2, h3, h4⟩ := HS.out
    have HO := Lib.hid h4
    have HY := Lib.hid hy
    have HX := Lib.hid hx
    have H1 := Lib.hid h1
    have c1 := h1.cell
    have c1f := h1.frozen
    clear hy hx h1 h4
    by_cases hlt : j < U.length
    · obtain ⟨b3, cap3, hv3, hb3, n3⟩ := NatsOf.at_ HN.out j hlt
      injection hv3 with e1 e2 e3
      have hb3n := HE.out.hub b3 0 e1
      have hUj := HU4.out U[j] (List.getElem_mem hlt)
      have HD : Hid (U.drop j = U[j] :: U.drop (j + 1)) := Lib.hid (List.drop_eq_getElem_cons hlt)
      subst e1
      clear e2 e3
      generalize U[j] = ux at *
      have i1 : (0 : Int) ≤ (j : Int) := by omega
      have i2 : (j : Int) < (U.length : Int) := by omega
      have hl1 := (H1.out).lt
      go_wp2_with fail
      refine startK 7 (fun w' => w'.cell? ⟨n0 + 1, 0, none⟩ = some (.slice a pre.length c) ∧ w'.cell? ⟨bi, 0, none⟩ = some (.slice (some ⟨b3, 0, none⟩) U.length cu) ∧ w'.cell? ⟨b3, j, none⟩ = some (.int .i64 (ux : Int))) (by kernel_rfl) (⟨c1, x1, n3⟩) (fun hHeld => ?_)
      refine takeK 0 23 (v := ?_) rfl rfl (by kernel_rfl) (by kernel_rfl) (by kernel_rfl) (by kernel_rfl) (fun _ _ _ h => h) (by rfl) ?_ (by assumption) ?_
      rotate_left
      · (intro w hSw; go_simp; first | done | with_reducible rfl)
      simp only [List.setIfInBounds_toArray, List.set_cons_zero, List.set_cons_succ]
      refine takeK 1 24 (v := ?_) rfl rfl (by kernel_rfl) (by kernel_rfl) (by kernel_rfl) (by kernel_rfl) (fun _ _ _ h => h) (by rfl) ?_ (by assumption) ?_
      rotate_left
      · (intro w hSw; go_simp; first | done | with_reducible rfl)
      simp only [List.setIfInBounds_toArray, List.set_cons_zero, List.set_cons_succ]
      refine takeK 2 25 (v := ?_) rfl rfl (by kernel_rfl) (by kernel_rfl) (by kernel_rfl) (by kernel_rfl) (fun _ _ _ h => h) (by rfl) ?_ (by assumption) ?_
      rotate_left
      · (intro w hSw; go_simp; first | done | with_reducible rfl)
      simp only [List.setIfInBounds_toArray, List.set_cons_zero, List.set_cons_succ]
      refine takeK 3 26 (v := ?_) rfl rfl (by kernel_rfl) (by kernel_rfl) (by kernel_rfl) (by kernel_rfl) (fun _ _ _ h => h) (by rfl) ?_ (by assumption) ?_
      rotate_left
      · (intro w hSw; go_simp; first | done | with_reducible rfl)
      simp only [List.setIfInBounds_toArray, List.set_cons_zero, List.set_cons_succ]
      refine takeK 4 27 (v := ?_) rfl rfl (by kernel_rfl) (by kernel_rfl) (by kernel_rfl) (by kernel_rfl) (fun _ _ _ h => h) (by rfl) ?_ (by assumption) ?_
      rotate_left
      · (intro w hSw; go_simp; first | done | with_reducible rfl)
      simp only [List.setIfInBounds_toArray, List.set_cons_zero, List.set_cons_succ]
      refine stepK 5 (by kernel_rfl) rfl (fun K hK => ?_)
      go_simp
      obtain ⟨w4, hw4⟩ : ∃ w4, (wr.alloc (.cells #[.int .i64 (ux : Int)] 3)).drew = w4 := ⟨_, rfl⟩
      have HK4 : Hid (BlkC w4 wr.heap.size 3 [.int .i64 (ux : Int)]) := Lib.hid (by rw [← hw4]; exact (BlkC.new wr _ _).drew)
      have HB4 : Hid (Below wr.heap.size wr w4) := Lib.hid (by rw [← hw4]; exact ((Below.refl _ _).alloc (Nat.le_refl _) _).drew)
      have hn3 : n0 + 3 ≤ wr.heap.size := by have := HX.out.lt; omega
      have HO4 : Hid (w4.ownsRow (n0 + 3) 3 1 (.slice a pre.length c) pre.length (pre.map natV)) := Lib.hid (by rw [← hw4]; exact HO.out.alloc _)
      rw [hw4]
      clear hw4 hHeld
      have hbl : bi < wr.heap.size := by omega
      have hb3l : b3 < wr.heap.size := by omega
      have HC1 := Lib.hid c1
      have HX1 := Lib.hid x1
      have HN3 := Lib.hid n3
      clear c1 x1 n3 c1f x2
      go_wp2_with fail
      refine hK.out _ _ (⟨(HB4.out.cell (p := ⟨n0 + 1, 0, none⟩) hl1).trans HC1.out, (HB4.out.cell (p := ⟨bi, 0, none⟩) hbl).trans HX1.out, (HB4.out.cell (p := ⟨b3, j, none⟩) hb3l).trans HN3.out⟩) (fun hHeld => ?_)
      clear hK K
      try simp only [Act.put, List.setIfInBounds_toArray, List.set_cons_zero, List.set_cons_succ]
      refine stepK 6 (by kernel_rfl) rfl (fun K hK => ?_)
      refine step_app1 (W0 := wr) elemInt rfl _ _ rfl [.int .i64 (ux : Int)] wr.heap.size _ _ _ rfl rfl HK4.out rfl (by simp [Value.oneCell']) HO4.out (HB4.out.mono hn3) (Nat.le_trans hn3 HB4.out.size) (by omega) (by omega) ?_
      intro g5 cap5 w5 Hown5 HB5 HO5 hcap5 hcap6
      clear hHeld HO5 HO4 HK4 HB4
      go_wp2_with fail
      refine hK.out _ _ (⟨(HB5.out.cell (p := ⟨n0 + 1, 0, none⟩) (show n0 + 1 < n0 + 3 by omega)).trans HC1.out, (HB5.out.cell (p := ⟨bi, 0, none⟩) (show bi < n0 + 3 by omega)).trans HX1.out, (HB5.out.cell (p := ⟨b3, j, none⟩) (show b3 < n0 + 3 by omega)).trans HN3.out⟩) (fun hHeld => ?_)
      clear hK K
      try simp only [Act.put, List.setIfInBounds_toArray, List.set_cons_zero, List.set_cons_succ]
      have H15 := Lib.hid (H1.out.below HB5.out (show n0 + 1 < n0 + 3 by omega))
      have HY5 := Lib.hid (HY.out.below HB5.out (show n0 < n0 + 3 by omega))
      have HX5 := Lib.hid (HX.out.below HB5.out (show n0 + 2 < n0 + 3 by omega))
      have d1 := H15.out.cell
      have d2 := H15.out.frozen
      obtain ⟨w6, hw6⟩ : ∃ w6, w5.setCell ⟨n0 + 1, 0, none⟩ (.slice (some ⟨g5, 0, none⟩) (pre.length + 1) cap5) = w6 := ⟨_, rfl⟩
      have hO6 : Only (fun b => b = n0 + 1) w5 w6 := by rw [← hw6]; exact (Only.refl (fun b => b = n0 + 1) w5).set (p := ⟨n0 + 1, 0, none⟩) rfl _
      have HS6 : Hid (SeqSt n0 l bi (pre ++ [ux]) w6) := Lib.hid (by
        refine ⟨hO6.one HY5.out (by omega), hO6.one HX5.out (by omega), some ⟨g5, 0, none⟩, cap5, ?_, hcap5, by simpa using hcap6, ?_⟩
        · rw [← hw6, List.length_append]
          exact H15.out.set _
        · have h9 := hO6.own Hown5.out (fun b hb => by have := (Hown5.out.lt b hb).1; omega)
          simpa [natV] using h9)
      have HJ6 := Lib.hid (HE.out.hA kj wr w6 HJ.out (hO6.below (HB5.out.mono (by omega)) (Nat.le_trans hn0 HB5.out.size) (fun k hk => by omega)))
      have e1 := HX5.out
      have e2 := (hO6.one e1 (by omega)).cell
      clear hO6 Hown5 HY5 HX5 e1
      refine lastK (by kernel_rfl) rfl (by kernel_rfl) (fun K hK => ?_)
      go_simp
      refine hK.out _ _ ?_
      clear hK K
      try simp only [Act.put, List.setIfInBounds_toArray, List.set_cons_zero, List.set_cons_succ]
      clear hHeld d1 d2 hw6 HJ HS HO HY HX H1 H15
      have hke := HK.out
      rw [HD.out] at hke
      obtain ⟨k1, k2, k3⟩ := ext_first hke
      have HK1 := Lib.hid k1
      have HK2 := Lib.hid k2
      have HC2 := HC.out
      rw [HD.out, k3] at HC2
      have HC3 := Lib.hid HC2
      have HCall := Lib.hid (HIH.out j kj (pre ++ [ux]) w6 hj2 (by simp; omega) HJ6.out HS6.out (by rw [HD.out]; exact k1))
      rw [HD.out] at HCall
      unfold extArgs at HCall
      unfold ptr at e2
      clear hke k1 k2 k3 HC2 HK HC HD HK1
      generalize (ext m (ux :: U.drop (j + 1))).length = len1 at *
      go_wp2_with fail
      refine HCall.out.mono ?_
      rintro e w7 ⟨⟨rfl, hj7⟩ | ⟨rfl, hj7⟩, hs7⟩
      · have HJ7 := Lib.hid hj7
        obtain ⟨hy7, hx7, a7, c7, h17, h27, h37, h47⟩ := hs7
        obtain ⟨g7, cap7, hv7, -⟩ := h47.form (by simp)
        injection hv7 with e71 e72 e73
        subst e71
        have hl7 : (pre ++ [ux]).length = pre.length + 1 := by simp
        rw [hl7] at h17 h47 h37
        have d1 := h17.cell
        have d2 := h17.frozen
        have HW7 := Lib.hid h47
        obtain ⟨w8, hw8⟩ : ∃ w8, w7.setCell ⟨n0 + 1, 0, none⟩ (.slice (some ⟨g7, 0, none⟩) pre.length c7) = w8 := ⟨_, rfl⟩
        have hO8 : Only (fun b => b = n0 + 1) w7 w8 := by rw [← hw8]; exact (Only.refl (fun b => b = n0 + 1) w7).set (p := ⟨n0 + 1, 0, none⟩) rfl _
        have HS8 : Hid (SeqSt n0 l bi pre w8) := Lib.hid (by
          refine ⟨hO8.one hy7 (by omega), hO8.one hx7 (by omega), some ⟨g7, 0, none⟩, c7, ?_, h27, by omega, ?_⟩
          · rw [← hw8]
            exact h17.set _
          · have h8 : w7.ownsRow (n0 + 3) 3 1 (.slice (some ⟨g7, 0, none⟩) (pre.length + 1) c7) (pre.length + 1) (pre.map natV ++ [natV ux]) := by simpa using h47
            exact hO8.own (own_shrink h8) (fun b hb => by have := ((own_shrink h8).lt b hb).1; omega))
        have hsz7 : n0 ≤ w7.heap.size := by have := hx7.lt; omega
        have HB8 : Hid (Below n0 w7 w8) := Lib.hid (hO8.below (Below.refl _ _) hsz7 (fun k hk => by omega))
        have hcl : pre.length ≤ c7 := by omega
        have j1 : (0 : Int) ≤ (pre.length : Int) := by omega
        have HO8 := Lib.hid hO8
        clear hO8 hy7 hx7 h17 h47 HW7 e72 e73 hl7 hj7 HCall HS6 HJ6 e2
        have HJ8 := Lib.hid (HE.out.hA _ w7 w8 HJ7.out HB8.out)
        clear HB8 HJ7 HO8
        go_wp2_with fail
        try rw [hw8]
        clear hw8 d1 d2
        go_roundw
        case rel => exact ⟨j + 1, kj + len1, by omega, by omega, by go_num, HJ8, HS8, Lib.hid (by have := HC3.out; omega), HK2⟩
        case measure => simp [intOf]; omega
      · have HJ7 := Lib.hid hj7
        obtain ⟨hy7, hx7, a7, c7, h17, h27, h37, h47⟩ := hs7
        obtain ⟨g7, cap7, hv7, -⟩ := h47.form (by simp)
        injection hv7 with e71 e72 e73
        subst e71
        have hl7 : (pre ++ [ux]).length = pre.length + 1 := by simp
        rw [hl7] at h17 h47 h37
        have d1 := h17.cell
        have d2 := h17.frozen
        have HW7 := Lib.hid h47
        obtain ⟨w8, hw8⟩ : ∃ w8, w7.setCell ⟨n0 + 1, 0, none⟩ (.slice (some ⟨g7, 0, none⟩) pre.length c7) = w8 := ⟨_, rfl⟩
        have hO8 : Only (fun b => b = n0 + 1) w7 w8 := by rw [← hw8]; exact (Only.refl (fun b => b = n0 + 1) w7).set (p := ⟨n0 + 1, 0, none⟩) rfl _
        have HS8 : Hid (SeqSt n0 l bi pre w8) := Lib.hid (by
          refine ⟨hO8.one hy7 (by omega), hO8.one hx7 (by omega), some ⟨g7, 0, none⟩, c7, ?_, h27, by omega, ?_⟩
          · rw [← hw8]
            exact h17.set _
          · have h8 : w7.ownsRow (n0 + 3) 3 1 (.slice (some ⟨g7, 0, none⟩) (pre.length + 1) c7) (pre.length + 1) (pre.map natV ++ [natV ux]) := by simpa using h47
            exact hO8.own (own_shrink h8) (fun b hb => by have := ((own_shrink h8).lt b hb).1; omega))
        have hsz7 : n0 ≤ w7.heap.size := by have := hx7.lt; omega
        have HB8 : Hid (Below n0 w7 w8) := Lib.hid (hO8.below (Below.refl _ _) hsz7 (fun k hk => by omega))
        have hcl : pre.length ≤ c7 := by omega
        have j1 : (0 : Int) ≤ (pre.length : Int) := by omega
        have HO8 := Lib.hid hO8
        clear hO8 hy7 hx7 h17 h47 HW7 e72 e73 hl7 hj7 HCall HS6 HJ6 e2
        have HJ8 := Lib.hid (HE.out.hAx w7 w8 HJ7.out HO8.out)
        clear HB8 HJ7 HO8
        go_wp2_with fail
        try rw [hw8]
        go_ret
        exact ⟨.inr ⟨rfl, HJ8.out⟩, HS8.out⟩
    · have h9 := HC.out
      rw [List.drop_of_length_le (show U.length ≤ j by omega)] at h9
      have HE9 : Hid (kj = k + (ext M (U.drop fr)).length) := Lib.hid (by simpa [extL] using h9)
      clear h9
      go_wp2_with fail
      go_ret
      exact ⟨.inl ⟨rfl, by rw [← HE9.out]; exact HJ.out⟩, HS.out⟩

theorem ext_any {n0 l bi bm : Nat} {au : Option Addr} {cu : Nat} {U : List Nat} {most : Nat} {J : Nat → World → Prop} {Jx : World → Prop} (E : Env n0 l bi bm au cu U most J Jx) : ∀ (m fr k : Nat) (pre : List Nat) (W : World), fr ≤ U.length → pre.length + m ≤ 8 → J k W → SeqSt n0 l bi pre W → (∀ j (h : j < (ext m (U.drop fr)).length), (seqs U most)[k + j]? = some (pre ++ (ext m (U.drop fr))[j])) → Calls Tryz.prog 92 (extArgs fr m n0 bi) W (ExtPost n0 l bi J Jx (k + (ext m (U.drop fr)).length) pre)
  | 0, fr, k, pre, W, _, _, hJ, hS, hk => by
    have h0 := hk 0 (by simp [ext])
    simp only [ext, Nat.add_zero, List.getElem_cons_zero, List.append_nil] at h0
    exact ext_zero E fr k pre W hJ hS h0
  | m + 1, fr, k, pre, W, h1, h2, hJ, hS, hk => ext_succ E m (ext_any E m) fr k pre W h1 h2 hJ hS hk

theorem seqs_succ (U : List Nat) (q : Nat) : seqs U (q + 1) = seqs U q ++ ext (q + 1) U := by
  unfold seqs
  rw [List.range_succ, List.flatMap_append]
  simp
theorem seqs_at (U : List Nat) : ∀ (d q j : Nat), j < (ext (q + 1) U).length → (seqs U (q + 1 + d))[(seqs U q).length + j]? = (ext (q + 1) U)[j]?
  | 0, q, j, h => by rw [Nat.add_zero, seqs_succ, List.getElem?_append_right (by omega)]; simp
  | d + 1, q, j, h => by
    have ih := seqs_at U d q j h
    rw [show q + 1 + (d + 1) = (q + 1 + d) + 1 by omega, seqs_succ]
    rw [List.getElem?_append_left, ih]
    have h2 : (seqs U q).length + j < (seqs U (q + 1 + d)).length := by
      rcases Nat.lt_or_ge ((seqs U q).length + j) (seqs U (q + 1 + d)).length with h5 | h5
      · exact h5
      · rw [List.getElem?_eq_none h5, List.getElem?_eq_getElem h] at ih
        cases ih
    exact h2

set_option maxRecDepth 100000 in
set_option maxHeartbeats 4000000 in
theorem seq1_any {l bi bm : Nat} {au : Option Addr} {cu : Nat} {U : List Nat} {most : Nat} {J : Nat → World → Prop} {Jx : World → Prop} (W : World) (E : Env W.heap.size l bi bm au cu U most J Jx) (hJ : J 0 W) :
    Calls Tryz.prog 91 #[.func (.yield l) #[] #[], .pointer (some ⟨bi, 0, none⟩), .pointer (some ⟨bm, 0, none⟩)] W fun e W' => (∃ v, e = .returned v) ∧ (J (seqs U most).length W' ∨ Jx W') := by
  have HE := Lib.hid E
  obtain ⟨hbi, hbm, hll⟩ := E.hb
  have hm8 := E.hu.2.2.2.2
  obtain ⟨n0, hn0⟩ : ∃ n0, W.heap.size = n0 := ⟨_, rfl⟩
  obtain ⟨w3, hw3⟩ : ∃ w3, (((W.alloc (.cells #[.func (.yield l) #[] #[]] 75)).alloc (.cells #[.slice none 0 0] 22)).alloc (.cells #[.func (.func 92) #[] #[ptr n0, ptr (n0 + 1), ptr bi, ptr (n0 + 2)]] 120)) = w3 := ⟨_, rfl⟩
  have hB3 : Below n0 W w3 := by rw [← hw3, ← hn0]; exact (((Below.refl _ _).alloc (Nat.le_refl _) _).alloc (by simp) _).alloc (by simp; omega) _
  have HS3 : Hid (SeqSt n0 l bi [] w3) := Lib.hid (by
    refine ⟨?_, ?_, none, 0, ?_, by omega, by simp, World.ownsRow_nil _ _ _ _⟩
    · rw [← hw3, ← hn0]
      exact ((One.new W _ _).alloc _).alloc _
    · have h9 := One.new ((W.alloc (.cells #[.func (.yield l) #[] #[]] 75)).alloc (.cells #[.slice none 0 0] 22)) 120 (.func (.func 92) #[] #[ptr n0, ptr (n0 + 1), ptr bi, ptr (n0 + 2)])
      rw [hw3] at h9
      have h8 : ((W.alloc (.cells #[.func (.yield l) #[] #[]] 75)).alloc (.cells #[.slice none 0 0] 22)).heap.size = n0 + 2 := by simp [hn0]
      rw [h8] at h9
      exact h9
    · have h9 := (One.new (W.alloc (.cells #[.func (.yield l) #[] #[]] 75)) 22 (.slice none 0 0)).alloc (.cells #[.func (.func 92) #[] #[ptr n0, ptr (n0 + 1), ptr bi, ptr (n0 + 2)]] 120)
      rw [hw3] at h9
      have h8 : (W.alloc (.cells #[.func (.yield l) #[] #[]] 75)).heap.size = n0 + 1 := by simp [hn0]
      rw [h8] at h9
      exact h9)
  rw [hn0] at HE hbi hbm hll
  have HJ3 := Lib.hid (HE.out.hA 0 W w3 hJ hB3)
  clear hJ E hB3
  unfold ptr at hw3
  go_enter Tryz.func91, Tryz.ntmps91
  go_wp2_with fail
  clear hw3 hn0
  go_loopw [6] (fun i wr => ∃ j : Nat, 1 ≤ j ∧ j ≤ most + 1 ∧ i = .int .i64 j ∧ Hid (J (seqs U (j - 1)).length wr) ∧ Hid (SeqSt n0 l bi [] wr)) (fun i _ => most + 1 - (intOf i).toNat)
  case atStart => exact ⟨1, by omega, by omega, rfl, Lib.hid (by simpa [seqs] using HJ3.out), HS3⟩
  case round =>
    clear HJ3 HS3
    obtain ⟨j, hj1, hj2, rfl, HJ, HS⟩ := hrel
    obtain ⟨hz0, x1, hnats, x2⟩ := HE.out.hR _ _ HJ.out
    clear hnats x1
    by_cases hlt : j ≤ most
    · have c2 := HS.out.x.cell
      unfold ptr at c2
      have hidx : ∀ q (h : q < (ext j (U.drop 0)).length), (seqs U most)[(seqs U (j - 1)).length + q]? = some ([] ++ (ext j (U.drop 0))[q]) := by
        intro q hq
        rw [List.drop_zero] at hq
        have h9 := seqs_at U (most - j) (j - 1) q (by rw [show j - 1 + 1 = j by omega]; exact hq)
        rw [show j - 1 + 1 + (most - j) = most by omega, show j - 1 + 1 = j by omega, List.getElem?_eq_getElem hq] at h9
        simpa using h9
      have HCall := Lib.hid (ext_any HE.out j 0 (seqs U (j - 1)).length [] wr (by omega) (by simp; omega) HJ.out HS.out hidx)
      rw [List.drop_zero, show (seqs U (j - 1)).length + (ext j U).length = (seqs U j).length by
        have := seqs_succ U (j - 1)
        rw [show j - 1 + 1 = j by omega] at this
        rw [this, List.length_append]] at HCall
      unfold extArgs at HCall
      have q1 : decide ((j : Int) ≤ (most : Int)) = true := by simpa using hlt
      have q2 : decide (j ≤ most) = true := by simpa using hlt
      clear hidx
      simp only [Int.natCast_zero] at HCall
      go_wp2_with fail
      refine HCall.out.mono ?_
      rintro e w7 ⟨⟨rfl, hj7⟩ | ⟨rfl, hj7⟩, hs7⟩
      · have HJ7 := Lib.hid hj7
        have HS7 := Lib.hid hs7
        clear hj7 hs7 HCall c2
        go_wp2_with fail
        go_roundw
        case rel => exact ⟨j + 1, by omega, by omega, by go_num, HJ7, HS7⟩
        case measure => simp [intOf]; omega
      · go_wp2_with fail
        refine bodyPost_ret (results_none rfl _ _ _) rfl ⟨⟨_, rfl⟩, .inr hj7⟩
    · have hje : j - 1 = most := by omega
      have HJ9 := HJ.out
      rw [hje] at HJ9
      have HJ8 := Lib.hid HJ9
      have q1 : decide ((j : Int) ≤ (most : Int)) = false := by simp; omega
      have q2 : decide (j ≤ most) = false := by simp; omega
      clear hje HJ9
      go_wp2_with fail
      go_end0
      exact ⟨⟨_, rfl⟩, .inl HJ8.out⟩

theorem sequences_any (a : Option Addr) (n c m : Nat) (w : World) : Calls Tryz.prog 41 #[.slice a n c, .int .i64 (m : Int)] w fun e w' => e = .returned (.func (.func 91) #[] #[.pointer (some ⟨w.heap.size, 0, none⟩), .pointer (some ⟨w.heap.size + 1, 0, none⟩)]) ∧ (w.alloc (.cells #[.slice a n c] 22)).alloc (.cells #[.int .i64 (m : Int)] 3) = w' := by
  go_enter Tryz.func41, Tryz.ntmps41
  go_wp2_with fail
  go_ret
  exact ⟨rfl, rfl⟩
end Go.Proofs.YtfpcgjgkbniofaaGreatDoor
