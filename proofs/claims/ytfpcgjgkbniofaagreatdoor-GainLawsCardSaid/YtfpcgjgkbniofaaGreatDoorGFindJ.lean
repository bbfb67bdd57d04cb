/- gain.Find: what its rounds keep. -/
import Derived.Test.YtfpcgjgkbniofaaGreatDoorGSeq
import Derived.Deep.Upon
set_option linter.unusedVariables false
set_option linter.unusedSimpArgs false
namespace Go.Proofs.YtfpcgjgkbniofaaGreatDoor
open Go.RowKit Go.Shelf

/-- the usable rules -/
def usL (c : Cat) : List Nat := (List.range c.rules.length).filter (fun (i : Nat) => usI c (i : Int))
def usT (c : Cat) (j : Nat) : List Nat := (List.range j).filter (fun (i : Nat) => usI c (i : Int))
theorem usT_len (c : Cat) (j : Nat) : (usT c j).length ≤ j := by
  have := List.length_filter_le (fun (i : Nat) => usI c (i : Int)) (List.range j)
  simpa [usT] using this
def gainS (c : Cat) (s : List Nat) : Bool := gainsB (netL c s)
def nilS : Value := .slice none 0 0

theorem setCells_blk {w : World} {g : Nat} {t : TypeId} : ∀ (vs : List Value) (o : Nat) (cs : List Value) (w : World), BlkC w g t cs → BlkC (w.setCells g o vs) g t ((List.range vs.length).foldl (fun l i => l.set (o + i) (vs.getD i undef)) cs) := by
  intro vs
  induction vs with
  | nil => intro o cs w h; simpa [World.setCells] using h
  | cons v r ih =>
    intro o cs w h
    rw [World.setCells]
    have h1 := ih (o + 1) (cs.set o v) _ (h.set o v)
    have e : (List.range (v :: r).length).foldl (fun l i => l.set (o + i) ((v :: r).getD i undef)) cs = (List.range r.length).foldl (fun l i => l.set (o + 1 + i) (r.getD i undef)) (cs.set o v) := by
      rw [List.length_cons, List.range_succ_eq_map, List.foldl_cons, List.foldl_map]
      simp only [Nat.add_zero, List.getD_cons_zero, List.getD_cons_succ]
      congr 1
      funext l i
      rw [show o + (i + 1) = o + 1 + i by omega]
    rw [e]
    exact h1
/-- a block that is cleared -/
theorem clear_blk {w : World} {g : Nat} {t : TypeId} {cs : List Value} (h : BlkC w g t cs) : BlkC (w.setCells g 0 (List.replicate cs.length (.int .i64 0))) g t (bagL cs.length (fun _ => 0)) := by
  have hlt := h.lt
  have key : ∀ (m o : Nat) (cs : List Value) (w : World), BlkC w g t cs → o + m = cs.length → BlkC (w.setCells g o (List.replicate m (.int .i64 0))) g t (cs.take o ++ List.replicate m (.int .i64 0)) := by
    intro m
    induction m with
    | zero => intro o cs w h he; simpa [World.setCells, List.take_of_length_le (show cs.length ≤ o by omega)] using h
    | succ m ih =>
      intro o cs w h he
      rw [List.replicate_succ, World.setCells]
      have h1 := ih (o + 1) (cs.set o (.int .i64 0)) _ (h.set o _) (by rw [List.length_set]; omega)
      have e : (cs.set o (.int .i64 0)).take (o + 1) ++ List.replicate m (Value.int .i64 0) = cs.take o ++ (Value.int .i64 0 :: List.replicate m (Value.int .i64 0)) := by
        rw [List.take_succ_eq_append_getElem (by rw [List.length_set]; omega), List.take_set_of_le (Nat.le_refl _)]
        simp
      rw [e] at h1
      exact h1
  have := key cs.length 0 cs w h (by omega)
  have e : bagL cs.length (fun _ => 0) = List.replicate cs.length (.int .i64 0) := by simp [bagL, zv, List.map_const']
  rw [e]
  simpa using this
theorem clear_only (w : World) (g o : Nat) : ∀ (vs : List Value) (o : Nat) (w : World), Only (fun b => b = g) w (w.setCells g o vs)
  | [], _, w => Only.refl _ _
  | v :: r, o, w => ((Only.refl (fun b => b = g) w).set (p := ⟨g, o, none⟩) rfl v).trans (clear_only w g o r (o + 1) _)

/-- what Find's rounds may turn -/
def SX (w : World) (gb b : Nat) : Prop := (w.heap.size + 1 ≤ b ∧ b ≤ w.heap.size + 4) ∨ b = gb ∨ gb + 5 ≤ b

/-- what they leave -/
structure FB (w : World) (ai : Option Addr) (n ci : Nat) (ar : Option Addr) (nr cr : Nat) (gb : Nat) (ga : Option Addr) (gc B2 : Nat) (U : List Nat) (most : Nat) (W : World) : Prop where
  cb : BoxC W w.heap.size (.slice ai n ci) (.slice ar nr cr)
  bagb : One W (gb + 1) 22 (.slice (some ⟨gb, 0, none⟩) n n)
  ib : One W (gb + 2) 22 (.slice ga U.length gc)
  mb : One W (gb + 3) 3 (.int .i64 (most : Int))
  own : W.ownsRow B2 3 1 (.slice ga U.length gc) U.length (U.map natV)
  hD : W.heap[gb + 4]? = some (.deferred (some []))
  bel : Below w.heap.size w W
  sz : gb + 6 ≤ W.heap.size
theorem FB.only {w : World} {ai : Option Addr} {n ci : Nat} {ar : Option Addr} {nr cr gb : Nat} {ga : Option Addr} {gc B2 : Nat} {U : List Nat} {most : Nat} {W W' : World} (h : FB w ai n ci ar nr cr gb ga gc B2 U most W) (ho : Only (SX w gb) W W') (hg : w.heap.size + 5 ≤ gb)
    (hob : ∀ b, (Value.slice ga U.length gc).ownBlock = some b → w.heap.size + 5 ≤ b ∧ b < gb) : FB w ai n ci ar nr cr gb ga gc B2 U most W' := by
  have h0 : ¬ SX w gb w.heap.size := by unfold SX; omega
  have hs := h.sz
  have h1 : ¬ SX w gb (gb + 1) := by unfold SX; omega
  have h2 : ¬ SX w gb (gb + 2) := by unfold SX; omega
  have h3 : ¬ SX w gb (gb + 3) := by unfold SX; omega
  have h4 : ¬ SX w gb (gb + 4) := by unfold SX; omega
  refine ⟨⟨Nat.lt_of_lt_of_le h.cb.lt ho.size, (ho.cell (p := ⟨w.heap.size, 0, none⟩) h0 h.cb.lt).trans h.cb.c0, (ho.cell (p := ⟨w.heap.size, 1, none⟩) h0 h.cb.lt).trans h.cb.c1, (ho.cell (p := ⟨w.heap.size, 2, none⟩) h0 h.cb.lt).trans h.cb.c2, (ho.cell (p := ⟨w.heap.size, 3, none⟩) h0 h.cb.lt).trans h.cb.c3⟩, ho.one h.bagb h1, ho.one h.ib h2, ho.one h.mb h3, ho.own h.own (fun b hb => ?_), (ho.block _ (by omega) h4).trans h.hD, ho.below h.bel h.bel.size (fun k hk => ?_), Nat.le_trans h.sz ho.size⟩
  · have := hob b hb
    unfold SX; omega
  · unfold SX at hk; omega

/-- k sequences have been looked at, none gains -/
structure FJ (w Wb : World) (c : Cat) (U : List Nat) (most : Nat) (fuel : Int) (gb n : Nat) (rec : LoopState → Option Code → Loop) (k : Nat) (W : World) : Prop where
  on : Only (SX w gb) Wb W
  sz : gb + 6 ≤ W.heap.size
  rd : W.heap[gb + 5]? = some (.loop (rec .ready none))
  f : One W (w.heap.size + 1) 3 (.int .i64 (fuel - k))
  bag : ∃ L : List Value, L.length = n ∧ BlkC W gb 3 L
  r1 : BlkC W (w.heap.size + 2) 42 [nilS, nilS, nilS]
  r2 : One W (w.heap.size + 3) 4 (.bool false)
  r3 : One W (w.heap.size + 4) 33 (.int .i64 0)
  no : ∀ q s, q < k → (seqs U most)[q]? = some s → gainS c s = false
  le : k = 0 ∨ (k : Int) ≤ fuel
theorem FJ.below {w Wb : World} {c : Cat} {U : List Nat} {most : Nat} {fuel : Int} {gb n : Nat} {rec : LoopState → Option Code → Loop} {k : Nat} {W W' : World} (h : FJ w Wb c U most fuel gb n rec k W) (hb : Below (gb + 6) W W') (hg : w.heap.size + 5 ≤ gb) : FJ w Wb c U most fuel gb n rec k W' := by
  obtain ⟨L, hL, hbag⟩ := h.bag
  refine ⟨h.on.trans ⟨hb.os, hb.tape, hb.output, hb.size, fun k hk hn => hb.block k (by unfold SX at hn; omega)⟩, Nat.le_trans h.sz hb.size, (hb.block _ (by omega)).trans h.rd, h.f.below hb (by omega), ⟨L, hL, hbag.below hb (by omega)⟩, h.r1.below hb (by omega), h.r2.below hb (by omega), h.r3.below hb (by omega), h.no, h.le⟩

/-- the round has returned -/
structure FX (w Wb : World) (c : Cat) (U : List Nat) (most : Nat) (fuel : Int) (gb n : Nat) (rec : LoopState → Option Code → Loop) (W : World) : Prop where
  on : Only (SX w gb) Wb W
  sz : gb + 6 ≤ W.heap.size
  rd : W.heap[gb + 5]? = some (.loop (rec .done (some .ret)))
  out : ∃ v1 v2 v3 b er, BlkC W (w.heap.size + 2) 42 [v1, v2, v3] ∧ One W (w.heap.size + 3) 4 (.bool b) ∧ One W (w.heap.size + 4) 33 (.int .i64 er) ∧
    ((scan (gainS c) (seqs U most) fuel = .empty ∧ b = false ∧ er = 21 ∧ v1 = nilS ∧ v2 = nilS ∧ v3 = nilS) ∨
     ∃ s g2, scan (gainS c) (seqs U most) fuel = .found s ∧ b = true ∧ er = 0 ∧ W.ownsRow (gb + 9) 3 1 v1 s.length (s.map natV) ∧ gb + 9 ≤ g2 ∧ v2 = .slice (some ⟨g2, 0, none⟩) n n ∧ BlkC W g2 3 (bagL n (fun i => needF i (rsOf c s))) ∧ v3 = .slice (some ⟨gb, 0, none⟩) n n ∧ BlkC W gb 3 (bagL n (fun i => netF i (rsOf c s))))
theorem FX.only {w Wb : World} {c : Cat} {U : List Nat} {most : Nat} {fuel : Int} {gb n : Nat} {rec : LoopState → Option Code → Loop} {W W' : World} (h : FX w Wb c U most fuel gb n rec W) (ho : Only (fun b => b = gb + 6 + 1) W W') (hg : w.heap.size + 5 ≤ gb) : FX w Wb c U most fuel gb n rec W' := by
  obtain ⟨v1, v2, v3, b, er, h1, h2, h3, h4⟩ := h.out
  have hsz := h.sz
  refine ⟨h.on.trans (ho.mono (fun k hk => by unfold SX; omega)), Nat.le_trans h.sz ho.size, (ho.block _ (by omega) (by omega)).trans h.rd, v1, v2, v3, b, er, h1.only ho (by omega), ho.one h2 (by omega), ho.one h3 (by omega), ?_⟩
  rcases h4 with h4 | ⟨s, g2, e1, e2, e3, e4, e5, e6, e7, e8, e9⟩
  · exact .inl h4
  · exact .inr ⟨s, g2, e1, e2, e3, ho.own e4 (fun b hb => by have := (e4.lt b hb).1; omega), e5, e6, e7.only ho (by omega), e8, e9.only ho (by omega)⟩

/-- the search at the one that is looked at -/
theorem scan_at {g : List Nat → Bool} : ∀ (S : List (List Nat)) (k : Nat) (f : Int) (s : List Nat), S[k]? = some s → (∀ q t, q < k → S[q]? = some t → g t = false) → (k = 0 ∨ (k : Int) ≤ f) → (f - k ≤ 0 → scan g S f = .empty) ∧ (0 < f - k → g s = true → scan g S f = .found s)
  | [], k, f, s, h, _, _ => by simp at h
  | t :: S, 0, f, s, h, _, _ => by
    simp at h
    subst h
    refine ⟨fun h1 => ?_, fun h1 h2 => ?_⟩
    · rw [scan, if_pos (by omega)]
    · rw [scan, if_neg (by omega), if_pos h2]
  | t :: S, k + 1, f, s, h, hn, hk => by
    have ht := hn 0 t (by omega) rfl
    have ih := scan_at (g := g) S k (f - 1) s (by simpa using h) (fun q u hq hu => hn (q + 1) u (by omega) (by simpa using hu)) (by omega)
    have hf : ¬ f ≤ 0 := by omega
    rw [scan, if_neg hf, if_neg (by simp [ht])]
    exact ⟨fun h1 => ih.1 (by omega), fun h1 => ih.2 (by omega)⟩
theorem scan_end {g : List Nat → Bool} (S : List (List Nat)) (f : Int) (hn : ∀ q t, q < S.length → S[q]? = some t → g t = false) (hk : S.length = 0 ∨ (S.length : Int) ≤ f) : scan g S f = .nothing := by
  rcases hk with hk | hk
  · have : S = [] := List.eq_nil_of_length_eq_zero hk
    subst this
    rfl
  · refine scan_none g S f (fun s hs => ?_) hk
    obtain ⟨i, hi, he⟩ := List.getElem_of_mem hs
    exact hn i s hi (by rw [List.getElem?_eq_getElem hi, he])

/-- the blocks that are laid ahead of the rounds -/
theorem find_base (wr : World) (n : Nat) (ga : Option Addr) (gc : Nat) (ul : Nat) (most : Int) (L : Loop) (gb : Nat) (hgb : wr.heap.size = gb) (Wb : World)
    (h : (((((wr.alloc (.cells (bagL n (fun _ => 0)).toArray 3)).alloc (.cells #[.slice (some ⟨gb, 0, none⟩) n n] 22)).alloc (.cells #[.slice ga ul gc] 22)).alloc (.cells #[.int .i64 most] 3)).alloc (.deferred (some []))).alloc (.loop L) = Wb) :
    Below gb wr Wb ∧ BlkC Wb gb 3 (bagL n (fun _ => 0)) ∧ One Wb (gb + 1) 22 (.slice (some ⟨gb, 0, none⟩) n n) ∧ One Wb (gb + 2) 22 (.slice ga ul gc) ∧ One Wb (gb + 3) 3 (.int .i64 most) ∧ Wb.heap[gb + 4]? = some (.deferred (some [])) ∧ Wb.heap[gb + 5]? = some (.loop L) ∧ Wb.heap.size = gb + 6 := by
  subst hgb
  generalize hA : wr.alloc (.cells (bagL n (fun _ => 0)).toArray 3) = A at h
  have zA : A.heap.size = wr.heap.size + 1 := by rw [← hA]; simp
  generalize hB : A.alloc (.cells #[.slice (some ⟨wr.heap.size, 0, none⟩) n n] 22) = B at h
  have zB : B.heap.size = wr.heap.size + 2 := by rw [← hB]; simp [zA]
  generalize hC : B.alloc (.cells #[.slice ga ul gc] 22) = C at h
  have zC : C.heap.size = wr.heap.size + 3 := by rw [← hC]; simp [zB]
  generalize hD : C.alloc (.cells #[.int .i64 most] 3) = D at h
  have zD : D.heap.size = wr.heap.size + 4 := by rw [← hD]; simp [zC]
  generalize hE : D.alloc (.deferred (some [])) = E at h
  have zE : E.heap.size = wr.heap.size + 5 := by rw [← hE]; simp [zD]
  have bA : Below wr.heap.size wr A := by rw [← hA]; exact (Below.refl _ _).alloc (Nat.le_refl _) _
  have bB : Below A.heap.size A B := by rw [← hB]; exact (Below.refl _ _).alloc (Nat.le_refl _) _
  have bC : Below B.heap.size B C := by rw [← hC]; exact (Below.refl _ _).alloc (Nat.le_refl _) _
  have bD : Below C.heap.size C D := by rw [← hD]; exact (Below.refl _ _).alloc (Nat.le_refl _) _
  have bE : Below D.heap.size D E := by rw [← hE]; exact (Below.refl _ _).alloc (Nat.le_refl _) _
  have bF : Below E.heap.size E Wb := by rw [← h]; exact (Below.refl _ _).alloc (Nat.le_refl _) _
  have bEF : Below D.heap.size D Wb := bE.trans (bF.mono (by omega))
  have bDF : Below C.heap.size C Wb := bD.trans (bEF.mono (by omega))
  have bCF : Below B.heap.size B Wb := bC.trans (bDF.mono (by omega))
  have bBF : Below A.heap.size A Wb := bB.trans (bCF.mono (by omega))
  have oA : BlkC A wr.heap.size 3 (bagL n (fun _ => 0)) := by rw [← hA]; exact BlkC.new _ _ _
  have oB : One B A.heap.size 22 (.slice (some ⟨wr.heap.size, 0, none⟩) n n) := by rw [← hB]; exact One.new _ _ _
  have oC : One C B.heap.size 22 (.slice ga ul gc) := by rw [← hC]; exact One.new _ _ _
  have oD : One D C.heap.size 3 (.int .i64 most) := by rw [← hD]; exact One.new _ _ _
  have oE : E.heap[D.heap.size]? = some (.deferred (some [])) := by rw [← hE]; exact World.alloc_heap_new _ _
  have oF : Wb.heap[E.heap.size]? = some (.loop L) := by rw [← h]; exact World.alloc_heap_new _ _
  rw [zA] at oB
  rw [zB] at oC
  rw [zC] at oD
  rw [zD] at oE
  rw [zE] at oF
  refine ⟨bA.trans (bBF.mono (by omega)), oA.below bBF (by omega), oB.below bCF (by omega), oC.below bDF (by omega), oD.below bEF (by omega), (bF.block _ (by omega)).trans oE, oF, ?_⟩
  rw [← h]
  simp [zE]

theorem only_putObj (W : World) (l : Nat) (o : Obj) : Only (fun b => b = l) W (W.putObj l o) :=
  ⟨rfl, rfl, rfl, by rw [World.putObj_size]; exact Nat.le_refl _, fun k hk hn => World.putObj_heap_other hn⟩
theorem keepsUp_of {S : Nat → Prop} {W W' : World} {n0 : Nat} (h : Only S W W') (hS : ∀ b, n0 ≤ b → ¬ S b) : KeepsUp n0 W W' := ⟨h.size, fun b hb hl => h.block b hl (hS b hb)⟩

theorem seqs_mem {U : List Nat} {most : Nat} {s : List Nat} (h : s ∈ seqs U most) : s.length ≤ most ∧ 1 ≤ s.length ∧ (∀ x ∈ s, x ∈ U) ∧ (U.Pairwise (· < ·) → s.Pairwise (· ≤ ·)) := by
  unfold seqs at h
  obtain ⟨k, hk, hs⟩ := List.mem_flatMap.1 h
  have hk' := List.mem_range.1 hk
  obtain ⟨h1, h2, h3⟩ := ext_mem hs
  exact ⟨by omega, by omega, h2, h3⟩
end Go.Proofs.YtfpcgjgkbniofaaGreatDoor
