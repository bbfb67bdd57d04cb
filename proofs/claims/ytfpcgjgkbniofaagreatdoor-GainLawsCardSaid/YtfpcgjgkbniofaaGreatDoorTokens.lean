/- The lexer's Tokens. -/
import Derived.Test.YtfpcgjgkbniofaaGreatDoorAll
import Derived.Maps.AppendAt
namespace Go.Proofs.YtfpcgjgkbniofaaGreatDoor
open Go.RowKit Go.Shelf
attribute [local go_sem] Oper.semAt_some

theorem all_any (s : ByteArray) (w : World) :
    Calls Tryz.prog 119 #[.string s] w fun e w' => e = .returned (.func (.func 129) #[] #[.pointer (some ⟨w.heap.size, 0, none⟩)]) ∧ w' = w.alloc (.cells #[.string s] 9) := by
  go_enter Tryz.func119, Tryz.ntmps119
  go_wp2
  go_ret
  exact ⟨rfl, rfl⟩

def tokCells (t : Tok) : List Value := [.int .i64 t.kind, .string ⟨t.text.toArray⟩, .int .i64 t.n, .int .i64 t.at_]
def cellsOf (ts : List Tok) : List Value := ts.flatMap tokCells
theorem cellsOf_snoc (ts : List Tok) (t : Tok) : cellsOf (ts ++ [t]) = cellsOf ts ++ tokCells t := by simp [cellsOf]

/-- the tokens of a text, or the offset and the error -/
def lxs (s : ByteArray) : Except (Nat × Int) (List Tok) := if 8192 < s.size then .error (0, 4) else lx s.size s.data.toList

/-- what Tokens leaves: E is the type of its tokens -/
def TokPost (E : TypeId) (s : ByteArray) (w : World) (e : Ending) (w' : World) : Prop :=
  Below w.heap.size w w' ∧ ((∃ ts v, lxs s = .ok ts ∧ ts.length ≤ s.size ∧ e = .returned (.tuple #[v, .int .i64 0, .int .i64 0]) ∧ w'.ownsRow w.heap.size E 4 v ts.length (cellsOf ts)) ∨
    (∃ k er, lxs s = .error (k, er) ∧ e = .returned (.tuple #[.slice none 0 0, .int .i64 (k : Nat), .int .i64 er]) ∧ (er = 2 ∨ er = 4)))

theorem cells_new (w : World) (l : List Value) (t : TypeId) : ∀ j u, l[j]? = some u → (w.alloc (.cells l.toArray t)).cell? ((⟨w.heap.size, 0, none⟩ : Addr).add j) = some u := by
  intro j u h
  have hadd : (⟨w.heap.size, 0, none⟩ : Addr).add j = ⟨w.heap.size, j, none⟩ := by unfold Addr.add; split <;> simp_all
  rw [hadd, cell_of_row _ w.heap.size j l.toArray t (0, 0) (World.alloc_heap_new w _)]
  simpa using h

theorem heap_alloc_get (w : World) (o : Obj) (k : Nat) : (w.alloc o).heap[k]? = if k = w.heap.size then some o else w.heap[k]? := by
  show (w.heap.push o)[k]? = _
  rw [Array.getElem?_push]

/-- all blocks of Wb but those of ex are as they were -/
def Frm (Wb W : World) (ex : List Nat) : Prop := W.os = Wb.os ∧ W.tape = Wb.tape ∧ W.output = Wb.output ∧ Wb.heap.size ≤ W.heap.size ∧ ∀ k, k < Wb.heap.size → k ∉ ex → W.heap[k]? = Wb.heap[k]?

theorem Frm.below {Wb W W' : World} {ex : List Nat} (h : Frm Wb W ex) (hb : Below W.heap.size W W') : Frm Wb W' ex :=
  ⟨hb.os.trans h.1, hb.tape.trans h.2.1, hb.output.trans h.2.2.1, Nat.le_trans h.2.2.2.1 hb.size, fun k hk hx => (hb.block k (Nat.lt_of_lt_of_le hk h.2.2.2.1)).trans (h.2.2.2.2 k hk hx)⟩

theorem five_boxes (w : World) (a b c d e : Value) (ta tb tc td te : TypeId) :
    Boxed (((((w.alloc (.cells #[a] ta)).alloc (.cells #[b] tb)).alloc (.cells #[c] tc)).alloc (.cells #[d] td)).alloc (.cells #[e] te)) w.heap.size ta a ∧
    Boxed (((((w.alloc (.cells #[a] ta)).alloc (.cells #[b] tb)).alloc (.cells #[c] tc)).alloc (.cells #[d] td)).alloc (.cells #[e] te)) (w.heap.size + 1) tb b ∧
    Boxed (((((w.alloc (.cells #[a] ta)).alloc (.cells #[b] tb)).alloc (.cells #[c] tc)).alloc (.cells #[d] td)).alloc (.cells #[e] te)) (w.heap.size + 2) tc c ∧
    Boxed (((((w.alloc (.cells #[a] ta)).alloc (.cells #[b] tb)).alloc (.cells #[c] tc)).alloc (.cells #[d] td)).alloc (.cells #[e] te)) (w.heap.size + 3) td d ∧
    Boxed (((((w.alloc (.cells #[a] ta)).alloc (.cells #[b] tb)).alloc (.cells #[c] tc)).alloc (.cells #[d] td)).alloc (.cells #[e] te)) (w.heap.size + 4) te e := by
  have h1 := (((Boxed.new w ta a).alloc (.cells #[b] tb)).alloc (.cells #[c] tc)).alloc (.cells #[d] td)
  have h2 := ((Boxed.new (w.alloc (.cells #[a] ta)) tb b).alloc (.cells #[c] tc)).alloc (.cells #[d] td)
  have h3 := (Boxed.new ((w.alloc (.cells #[a] ta)).alloc (.cells #[b] tb)) tc c).alloc (.cells #[d] td)
  have h4 := Boxed.new (((w.alloc (.cells #[a] ta)).alloc (.cells #[b] tb)).alloc (.cells #[c] tc)) td d
  have h5 := Boxed.new ((((w.alloc (.cells #[a] ta)).alloc (.cells #[b] tb)).alloc (.cells #[c] tc)).alloc (.cells #[d] td)) te e
  simp only [World.size_alloc, Nat.add_assoc, Nat.reduceAdd] at h2 h3 h4 h5
  exact ⟨h1.alloc _, h2.alloc _, h3.alloc _, h4.alloc _, h5⟩

theorem infoTok : (Tryz.prog.info? 142).map (fun i => (i.zero, i.size, i.bytes)) = some (some (.agg #[.int .i64 0, .string ⟨#[]⟩, .int .i64 0, .int .i64 0]), 4, 40) := by kernel_rfl

/-- between two rounds: the tokens that have come are collected -/
def TJ (B : Nat) (rec : LoopState → Option Code → Loop) (Wb : World) (pre : List Tok) (R : Option Nat) (W : World) : Prop :=
  Frm Wb W [B + 3, B + 6] ∧ W.heap[B + 6]? = some (.loop (rec .ready none)) ∧ ∃ v, Boxed W (B + 3) 138 v ∧ W.ownsRow (B + 7) 142 4 v pre.length (cellsOf pre) ∧ R = v.ownBlock

theorem grownBy_of_below {W W' : World} (hb : Below W.heap.size W W') (row : Option Nat) : W.grownBy W' row := ⟨hb.os, hb.tape, hb.output, hb.size, fun k hk _ => hb.block k hk⟩

theorem ownsRow_below {W W' : World} {base e size n : Nat} {v : Value} {xs : List Value} (h : W.ownsRow base e size v n xs) (hb : Below W.heap.size W W') : W'.ownsRow base e size v n xs :=
  h.kept (grownBy_of_below hb none) (by cases v.ownBlock <;> simp)

theorem TJ.below {B : Nat} {rec : LoopState → Option Code → Loop} {Wb : World} {pre : List Tok} {R : Option Nat} {W W' : World} (h : TJ B rec Wb pre R W) (hb : Below W.heap.size W W') : TJ B rec Wb pre R W' := by
  obtain ⟨hF, hl, v, hT, hrow, hR⟩ := h
  exact ⟨hF.below hb, (hb.block _ (Array.getElem?_eq_some_iff.1 hl).1).trans hl, v, (hb.block _ hT.lt).trans hT, ownsRow_below hrow hb, hR⟩

theorem ownsRow_base {W : World} {base base' e size n : Nat} {v : Value} {xs : List Value} (hb : base' ≤ base) (h : W.ownsRow base e size v n xs) : W.ownsRow base' e size v n xs := by
  refine ⟨h.1, ?_⟩
  rcases h.2 with h | ⟨g, cap, cur, hv, hb', rest⟩
  · exact .inl h
  · exact .inr ⟨g, cap, cur, hv, Nat.le_trans hb hb', rest⟩

theorem ownBlock_ge {W : World} {base e size n : Nat} {v : Value} {xs : List Value} (h : W.ownsRow base e size v n xs) {k : Nat} (hk : k < base) : some k ≠ v.ownBlock := by
  intro e
  have := (h.lt k e.symm).1
  omega

theorem heap_setCell_size (w : World) (a : Addr) (v : Value) : (w.setCell a v).heap.size = w.heap.size := by
  show (w.heap.modify _ _).size = _
  rw [Array.size_modify]

theorem tj_step (B : Nat) (rec : LoopState → Option Code → Loop) (Wb W W2 w1 : World) (v v' : Value) (pre : List Tok) (t : Tok) (C D : Obj)
    (hF : Frm Wb W [B + 3, B + 6]) (hB : Wb.heap.size = B + 7) (hW2 : W2 = (W.alloc C).putObj (B + 6) (.loop (rec .busy none))) (hlW : B + 6 < W.heap.size)
    (hT : Boxed W2 (B + 3) 138 v) (hrow : W2.ownsRow (B + 7) 142 4 v pre.length (cellsOf pre))
    (hg : (W2.alloc D).grownBy w1 v.ownBlock) (hown : w1.ownsRow (B + 7) 142 4 v' (pre.length + 1) (cellsOf pre ++ tokCells t)) :
    (w1.setCell ⟨B + 3, 0, none⟩ v').heap[B + 6]? = some (.loop (rec .busy none)) ∧
    TJ B rec Wb (pre ++ [t]) v'.ownBlock ((w1.setCell ⟨B + 3, 0, none⟩ v').putObj (B + 6) (.loop (rec .ready none))) ∧
    Keeps (B + 6) (B + 3) v.ownBlock W ((w1.setCell ⟨B + 3, 0, none⟩ v').putObj (B + 6) (.loop (rec .ready none))) := by
  have hz2 : W2.heap.size = W.heap.size + 1 := by rw [hW2]; simp
  have hl2 : W2.heap[B + 6]? = some (.loop (rec .busy none)) := by rw [hW2]; exact World.putObj_heap_same (by simp; omega)
  have hl3 : (w1.setCell ⟨B + 3, 0, none⟩ v').heap[B + 6]? = some (.loop (rec .busy none)) :=
    (Below.heap_setCell _ _ _ _ (by show B + 6 ≠ B + 3; omega)).trans ((hg.block _ (by simp; omega) (ownBlock_ge hrow (by omega))).trans ((Below.heap_alloc _ _ _ (by omega)).trans hl2))
  have hkeep : ∀ k, k < W.heap.size → some k ≠ v.ownBlock → k ≠ B + 6 → k ≠ B + 3 → ((w1.setCell ⟨B + 3, 0, none⟩ v').putObj (B + 6) (.loop (rec .ready none))).heap[k]? = W.heap[k]? := by
    intro k hk hne h6 h3
    refine (World.putObj_heap_other h6).trans ((Below.heap_setCell _ _ _ _ (by show k ≠ B + 3; omega)).trans ((hg.block _ (by simp; omega) hne).trans ((Below.heap_alloc _ _ _ (by omega)).trans ?_)))
    rw [hW2]
    exact (World.putObj_heap_other h6).trans (Below.heap_alloc _ _ _ hk)
  have hsz : W.heap.size ≤ ((w1.setCell ⟨B + 3, 0, none⟩ v').putObj (B + 6) (.loop (rec .ready none))).heap.size := by
    have := hg.size
    simp only [World.size_alloc] at this
    rw [World.putObj_size, heap_setCell_size]; omega
  have hv1 : Boxed w1 (B + 3) 138 v := (hT.alloc D).kept hg (hT.not_row (by decide) hrow)
  refine ⟨hl3, ⟨⟨?_, ?_, ?_, ?_, ?_⟩, World.putObj_heap_same (by
      have := hg.size
      simp only [World.size_alloc] at this
      rw [heap_setCell_size]; omega), v', ?_, ?_, rfl⟩, hsz, hkeep⟩
  · exact hg.os.trans (by rw [hW2]; exact hF.1)
  · exact hg.tape.trans (by rw [hW2]; exact hF.2.1)
  · exact hg.output.trans (by rw [hW2]; exact hF.2.2.1)
  · exact Nat.le_trans hF.2.2.2.1 hsz
  · intro k hk hx
    simp only [List.mem_cons, List.not_mem_nil, or_false, not_or] at hx
    exact (hkeep k (by have := hF.2.2.2.1; omega) (ownBlock_ge hrow (by omega)) hx.2 hx.1).trans (hF.2.2.2.2 k hk (by simp; omega))
  · exact (World.putObj_heap_other (by omega)).trans (hv1.set v')
  · rw [cellsOf_snoc, List.length_append]
    exact ownsRow_putObj (hown.kept (grownBy_setCell' w1 (B + 3) v') (.inr (hv1.not_row (by decide) hown).symm)) _ hl3 rfl

/-- an error has come -/
def TX (B : Nat) (rec : LoopState → Option Code → Loop) (Wb : World) (k : Nat) (er : Int) (W : World) : Prop :=
  Frm Wb W [B + 3, B + 6, B, B + 1, B + 2] ∧ W.heap[B + 6]? = some (.loop (rec .done (some .ret))) ∧ Boxed W B 138 (.slice none 0 0) ∧ Boxed W (B + 1) 3 (.int .i64 k) ∧ Boxed W (B + 2) 33 (.int .i64 er)

theorem TX.below {B : Nat} {rec : LoopState → Option Code → Loop} {Wb : World} {k : Nat} {er : Int} {W W' : World} (h : TX B rec Wb k er W) (hb : Below W.heap.size W W') : TX B rec Wb k er W' := by
  obtain ⟨hF, hl, e2, e3, e4⟩ := h
  exact ⟨hF.below hb, (hb.block _ (Array.getElem?_eq_some_iff.1 hl).1).trans hl, (hb.block _ e2.lt).trans e2, (hb.block _ e3.lt).trans e3, (hb.block _ e4.lt).trans e4⟩

theorem tx_close (B : Nat) (rec : LoopState → Option Code → Loop) (Wb W W2 X : World) (k : Nat) (er : Int) {C : Obj} (a : Act)
    (hF : Frm Wb W [B + 3, B + 6]) (hB : Wb.heap.size = B + 7) (hW2 : W2 = (W.alloc C).putObj (B + 6) (.loop (rec .busy none))) (hlW : B + 6 < W.heap.size)
    (hs : X.os = W2.os ∧ X.tape = W2.tape ∧ X.output = W2.output) (hz : X.heap.size = W2.heap.size)
    (hX : ∀ k, k ≠ B → k ≠ B + 1 → k ≠ B + 2 → X.heap[k]? = W2.heap[k]?)
    (h2 : Boxed X B 138 (.slice none 0 0)) (h3 : Boxed X (B + 1) 3 (.int .i64 k)) (h4 : Boxed X (B + 2) 33 (.int .i64 er)) :
    roundEnds (B + 6) rec (fun e W' => e = .returned (.bool false) ∧ TX B rec Wb k er W') .ret a X := by
  have hz2 : W2.heap.size = W.heap.size + 1 := by rw [hW2]; simp
  have hl2 : W2.heap[B + 6]? = some (.loop (rec .busy none)) := by rw [hW2]; exact World.putObj_heap_same (by simp; omega)
  have hlX : X.heap[B + 6]? = some (.loop (rec .busy none)) := (hX _ (by omega) (by omega) (by omega)).trans hl2
  refine ⟨hlX, rfl, ⟨?_, ?_, ?_, ?_, ?_⟩, World.putObj_heap_same (by omega), ?_, ?_, ?_⟩
  · exact hs.1.trans (by rw [hW2]; exact hF.1)
  · exact hs.2.1.trans (by rw [hW2]; exact hF.2.1)
  · exact hs.2.2.trans (by rw [hW2]; exact hF.2.2.1)
  · have := hF.2.2.2.1
    rw [World.putObj_size]; omega
  · intro j hj hx
    simp only [List.mem_cons, List.not_mem_nil, or_false, not_or] at hx
    refine (World.putObj_heap_other hx.2.1).trans ((hX _ hx.2.2.1 hx.2.2.2.1 hx.2.2.2.2).trans ?_)
    rw [hW2]
    exact (World.putObj_heap_other hx.2.1).trans ((Below.heap_alloc _ _ _ (by have := hF.2.2.2.1; omega)).trans (hF.2.2.2.2 j hj (by simp; omega)))
  · exact (World.putObj_heap_other (by omega)).trans h2
  · exact (World.putObj_heap_other (by omega)).trans h3
  · exact (World.putObj_heap_other (by omega)).trans h4

theorem tx_perm (B : Nat) (rec : LoopState → Option Code → Loop) (Wb W W2 : World) (x1 x2 x3 : Nat) (u1 u2 u3 : Value) (k : Nat) (er : Int) {C : Obj} (a : Act)
    (hF : Frm Wb W [B + 3, B + 6]) (hB : Wb.heap.size = B + 7) (hW2 : W2 = (W.alloc C).putObj (B + 6) (.loop (rec .busy none))) (hlW : B + 6 < W.heap.size)
    (h2 : Boxed W2 B 138 (.slice none 0 0)) (h3 : Boxed W2 (B + 1) 3 (.int .i64 0)) (h4 : Boxed W2 (B + 2) 33 (.int .i64 0))
    (hp : (x1 = B ∧ u1 = .slice none 0 0 ∧ x2 = B + 1 ∧ u2 = .int .i64 k ∧ x3 = B + 2 ∧ u3 = .int .i64 er) ∨
      (x1 = B ∧ u1 = .slice none 0 0 ∧ x3 = B + 1 ∧ u3 = .int .i64 k ∧ x2 = B + 2 ∧ u2 = .int .i64 er) ∨
      (x2 = B ∧ u2 = .slice none 0 0 ∧ x1 = B + 1 ∧ u1 = .int .i64 k ∧ x3 = B + 2 ∧ u3 = .int .i64 er) ∨
      (x2 = B ∧ u2 = .slice none 0 0 ∧ x3 = B + 1 ∧ u3 = .int .i64 k ∧ x1 = B + 2 ∧ u1 = .int .i64 er) ∨
      (x3 = B ∧ u3 = .slice none 0 0 ∧ x1 = B + 1 ∧ u1 = .int .i64 k ∧ x2 = B + 2 ∧ u2 = .int .i64 er) ∨
      (x3 = B ∧ u3 = .slice none 0 0 ∧ x2 = B + 1 ∧ u2 = .int .i64 k ∧ x1 = B + 2 ∧ u1 = .int .i64 er)) :
    roundEnds (B + 6) rec (fun e W' => e = .returned (.bool false) ∧ TX B rec Wb k er W') .ret a ((((W2.setCell ⟨x1, 0, none⟩ u1).setCell ⟨x2, 0, none⟩ u2).setCell ⟨x3, 0, none⟩ u3).drew) := by
  have hz : ((((W2.setCell ⟨x1, 0, none⟩ u1).setCell ⟨x2, 0, none⟩ u2).setCell ⟨x3, 0, none⟩ u3).drew).heap.size = W2.heap.size := by
    show (((W2.setCell ⟨x1, 0, none⟩ u1).setCell ⟨x2, 0, none⟩ u2).setCell ⟨x3, 0, none⟩ u3).heap.size = _
    rw [heap_setCell_size, heap_setCell_size, heap_setCell_size]
  have hX : ∀ k, k ≠ x1 → k ≠ x2 → k ≠ x3 → ((((W2.setCell ⟨x1, 0, none⟩ u1).setCell ⟨x2, 0, none⟩ u2).setCell ⟨x3, 0, none⟩ u3).drew).heap[k]? = W2.heap[k]? := by
    intro k e1 e2 e3
    show (((W2.setCell ⟨x1, 0, none⟩ u1).setCell ⟨x2, 0, none⟩ u2).setCell ⟨x3, 0, none⟩ u3).heap[k]? = _
    exact (Below.heap_setCell _ ⟨x3, 0, none⟩ _ _ e3).trans ((Below.heap_setCell _ ⟨x2, 0, none⟩ _ _ e2).trans (Below.heap_setCell _ ⟨x1, 0, none⟩ _ _ e1))
  rcases hp with ⟨rfl, rfl, rfl, rfl, rfl, rfl⟩ | ⟨rfl, rfl, rfl, rfl, rfl, rfl⟩ | ⟨rfl, rfl, rfl, rfl, rfl, rfl⟩ | ⟨rfl, rfl, rfl, rfl, rfl, rfl⟩ | ⟨rfl, rfl, rfl, rfl, rfl, rfl⟩ | ⟨rfl, rfl, rfl, rfl, rfl, rfl⟩
  · exact tx_close _ rec Wb W W2 _ k er a hF hB hW2 hlW ⟨rfl, rfl, rfl⟩ hz (fun k e1 e2 e3 => hX k e1 e2 e3) (((h2.set _).other (by omega) _).other (by omega) _) (((h3.other (by omega) _).set _).other (by omega) _) (((h4.other (by omega) _).other (by omega) _).set _)
  · exact tx_close _ rec Wb W W2 _ k er a hF hB hW2 hlW ⟨rfl, rfl, rfl⟩ hz (fun k e1 e2 e3 => hX k e1 e3 e2) (((h2.set _).other (by omega) _).other (by omega) _) (((h3.other (by omega) _).other (by omega) _).set _) (((h4.other (by omega) _).set _).other (by omega) _)
  · exact tx_close _ rec Wb W W2 _ k er a hF hB hW2 hlW ⟨rfl, rfl, rfl⟩ hz (fun k e1 e2 e3 => hX k e2 e1 e3) (((h2.other (by omega) _).set _).other (by omega) _) (((h3.set _).other (by omega) _).other (by omega) _) (((h4.other (by omega) _).other (by omega) _).set _)
  · exact tx_close _ rec Wb W W2 _ k er a hF hB hW2 hlW ⟨rfl, rfl, rfl⟩ hz (fun k e1 e2 e3 => hX k e3 e1 e2) (((h2.other (by omega) _).set _).other (by omega) _) (((h3.other (by omega) _).other (by omega) _).set _) (((h4.set _).other (by omega) _).other (by omega) _)
  · exact tx_close _ rec Wb W W2 _ k er a hF hB hW2 hlW ⟨rfl, rfl, rfl⟩ hz (fun k e1 e2 e3 => hX k e2 e3 e1) (((h2.other (by omega) _).other (by omega) _).set _) (((h3.set _).other (by omega) _).other (by omega) _) (((h4.other (by omega) _).set _).other (by omega) _)
  · exact tx_close _ rec Wb W W2 _ k er a hF hB hW2 hlW ⟨rfl, rfl, rfl⟩ hz (fun k e1 e2 e3 => hX k e3 e2 e1) (((h2.other (by omega) _).other (by omega) _).set _) (((h3.other (by omega) _).set _).other (by omega) _) (((h4.set _).other (by omega) _).other (by omega) _)

set_option maxHeartbeats 2000000 in
theorem tokens_in (s : ByteArray) (w : World) (hs : s.size ≤ 8192) (hK : Kinds w) :
    CallsIn Fence.wide 5 Tryz.prog 106 #[.string s] w (TokPost 142 s w) := by
  have HK := Lib.hid hK
  clear hK
  refine callsIn_of_wp_marks Tryz.func106 rfl trivial ?_ rfl
  simp only [Tryz.ntmps106, List.size_toArray, List.length_cons, List.length_nil, Nat.reduceAdd, Nat.reduceSub, Array.replicate_succ, Array.replicate_zero, List.push_toArray, List.append_toArray, List.nil_append, List.cons_append]
  gi_wp2_with (refine ⟨trivial, ?_⟩; gi_at_call 119; refine (callsIn_wide.2 (all_any _ _)).mono ?_; rintro e w' ⟨rfl, rfl⟩)
  obtain ⟨w0, hw0⟩ : ∃ w0, (((((w.alloc (Obj.cells #[Value.slice none 0 0] 138)).alloc (Obj.cells #[Value.int IntKind.i64 0] 3)).alloc
              (Obj.cells #[Value.int IntKind.i64 0] 33)).alloc
          (Obj.cells #[Value.slice none 0 0] 138)).alloc
      (Obj.cells #[Value.string s] 9)) = w0 := ⟨_, rfl⟩
  rw [hw0]
  have hz0 : w0.heap.size = w.heap.size + 5 := by rw [← hw0]; simp
  refine range_stmt rfl (by omega) (gf := 129) (lb := #[.pointer (some ⟨w.heap.size + 1 + 1 + 1 + 1, 0, none⟩)]) rfl trivial (enters_of Tryz.func129 (by kernel_rfl) rfl) ?_
  intro fn _
  generalize hrec : recOf fn _ _ _ _ _ = rec
  obtain ⟨Wb, hWb⟩ : ∃ Wb, (w0.alloc (.deferred (some []))).alloc (.loop (rec .ready none)) = Wb := ⟨_, rfl⟩
  rw [hWb]
  have hzb : Wb.heap.size = w.heap.size + 7 := by rw [← hWb]; simp [hz0]
  have hJ0 : Frm Wb Wb [w.heap.size + 3, w.heap.size + 6] := ⟨rfl, rfl, rfl, Nat.le_refl _, fun _ _ _ => rfl⟩
  have hlb : Wb.heap[w.heap.size + 6]? = some (.loop (rec .ready none)) := by
    rw [← hWb]; have := World.alloc_heap_new (w0.alloc (.deferred (some []))) (.loop (rec .ready none)); rw [World.size_alloc, hz0] at this; exact this
  have hDb : Wb.heap[w.heap.size + 5]? = some (.deferred (some [])) := by
    rw [← hWb]; have := World.alloc_heap_new w0 (.deferred (some [])); rw [hz0] at this; exact (Below.heap_alloc _ _ _ (by simp [hz0])).trans this
  have hold : ∀ k, k < w.heap.size + 5 → Wb.heap[k]? = w0.heap[k]? := by
    intro k hk; rw [← hWb]; exact (Below.heap_alloc _ _ _ (by simp [hz0]; omega)).trans (Below.heap_alloc _ _ _ (by omega))
  obtain ⟨h2b, h3b, h4b, hTb, hsb⟩ : Boxed Wb w.heap.size 138 (.slice none 0 0) ∧ Boxed Wb (w.heap.size + 1) 3 (.int .i64 0) ∧ Boxed Wb (w.heap.size + 2) 33 (.int .i64 0) ∧ Boxed Wb (w.heap.size + 3) 138 (.slice none 0 0) ∧ Boxed Wb (w.heap.size + 4) 9 (.string s) := by
    have h5 := five_boxes w (.slice none 0 0) (.int .i64 0) (.int .i64 0) (.slice none 0 0) (.string s) 138 3 33 138 9
    rw [hw0] at h5
    exact ⟨(hold _ (by omega)).trans h5.1, (hold _ (by omega)).trans h5.2.1, (hold _ (by omega)).trans h5.2.2.1, (hold _ (by omega)).trans h5.2.2.2.1, (hold _ (by omega)).trans h5.2.2.2.2⟩
  have hwb : ∀ k, k < w.heap.size → Wb.heap[k]? = w.heap[k]? := by
    intro k hk; rw [hold _ (by omega), ← hw0]
    exact (((((((Below.refl w.heap.size w).alloc (Nat.le_refl _) _).alloc (by simp) _).alloc (by simp; omega) _).alloc (by simp; omega) _).alloc (by simp; omega) _)).block k hk
  have hY : ∀ pre R t W, pre.length < s.size → TJ w.heap.size rec Wb pre R W → YieldAt Fence.wide (4 - 1) Tryz.prog (w.heap.size + 6) #[tokAgg t.kind ⟨t.text.toArray⟩ t.n t.at_, .int .i64 0] W fun e W' =>
      e = .returned (.bool true) ∧ ∃ R', TJ w.heap.size rec Wb (pre ++ [t]) R' W' ∧ Keeps (w.heap.size + 6) (w.heap.size + 3) R W W' := by
    rintro pre R t W hlen ⟨hF, hl, v, hT, hrow, rfl⟩
    rw [← hrec] at hl
    refine yield_round trivial hl rfl ?_
    rw [hrec] at hl ⊢
    unfold tokAgg
    gi_wp2
    have hlW : w.heap.size + 6 < W.heap.size := (Array.getElem?_eq_some_iff.1 hl).1
    refine ⟨(Below.heap_alloc _ _ _ hlW).trans hl, ?_⟩
    obtain ⟨W2, hW2⟩ : ∃ W2, ((W.alloc (.cells #[.int .i64 t.kind, .string ⟨t.text.toArray⟩, .int .i64 t.n, .int .i64 t.at_] 142)).putObj (w.heap.size + 6) (.loop (rec .busy none))) = W2 := ⟨_, rfl⟩
    rw [hW2]
    have hz2 : W2.heap.size = W.heap.size + 1 := by rw [← hW2]; simp
    have hl2 : W2.heap[w.heap.size + 6]? = some (.loop (rec .busy none)) := by rw [← hW2]; exact World.putObj_heap_same (by simp; omega)
    have hF2 : ∀ k, k < W.heap.size → k ≠ w.heap.size + 6 → W2.heap[k]? = W.heap[k]? := by
      intro k hk hne; rw [← hW2]; exact (World.putObj_heap_other hne).trans (Below.heap_alloc _ _ _ hk)
    have hc2 : W2.heap[W.heap.size]? = some (.cells #[.int .i64 t.kind, .string ⟨t.text.toArray⟩, .int .i64 t.n, .int .i64 t.at_] 142 (0, 0)) := by
      rw [← hW2]; exact (World.putObj_heap_other (by omega)).trans (World.alloc_heap_new _ _)
    have hT2 : Boxed W2 (w.heap.size + 3) 138 v := (hF2 _ (by have := hT.lt; omega) (by omega)).trans hT
    have hrow2 : W2.ownsRow (w.heap.size + 7) 142 4 v pre.length (cellsOf pre) := by
      rw [← hW2]; exact ownsRow_putObj (hrow.alloc _) _ ((Below.heap_alloc _ _ _ hlW).trans hl) rfl
    have q0 := (cell_of_row W2 W.heap.size 0 _ _ _ hc2)
    have q1 := (cell_of_row W2 W.heap.size 1 _ _ _ hc2)
    have q2 := (cell_of_row W2 W.heap.size 2 _ _ _ hc2)
    have q3 := (cell_of_row W2 W.heap.size 3 _ _ _ hc2)
    have qT := hT2.cell
    simp at q0 q1 q2 q3
    have HF2 := Lib.hid hF2
    have Hc2 := Lib.hid hc2
    have HT2 := Lib.hid hT2
    have Hl2 := Lib.hid hl2
    have Hz2 := Lib.hid hz2
    have Hrow := Lib.hid hrow
    have HT := Lib.hid hT
    have HF := Lib.hid hF
    have HW2 := Lib.hid hW2.symm
    have hT2' := Lib.hid hT2
    clear hF2 hc2 hT2 hl2 hW2 hrow hT hF hl hz2
    obtain ⟨i0, hi, hz0', hz1, hz2'⟩ := info_parts infoTok
    gi_wp2_with (gi_at_builtin; refine wpListIn_append_own _ rfl _ _ 138 rfl (w.heap.size + 7) 142 i0 (.agg #[.int .i64 0, .string ⟨#[]⟩, .int .i64 0, .int .i64 0]) 4 40 Tryz.underlying138 hi hz0' hz1 hz2' rfl (by decide) _ _ _ rfl (hrow2.alloc _) ⟨W2.heap.size, 0, none⟩ 1 1 (tokCells t) rfl rfl (cells_new _ (tokCells t) _) (by simp [Value.oneCell', tokCells]) (by unfold maxLen; omega) (by omega) (by have := Hz2.out; simp; omega) ?_; intro v' w1 hown' hgrow _; obtain ⟨g', cap', rfl⟩ := ownsRow_succ hown'; have hv1 := (HT2.out.alloc (.cells (tokCells t).toArray 142)).kept hgrow (HT2.out.not_row (by decide) hrow2); have hc1 := hv1.cell; have hf1 := hv1.frozen; have Hv1 := Lib.hid hv1; have Hgrow := Lib.hid hgrow; have Hown := Lib.hid hown'; clear hv1 hgrow hown')
    have hgr : (W2.alloc (.cells (tokCells t).toArray 142)).grownBy w1 v.ownBlock := Hgrow.out
    obtain ⟨r1, r2, r3⟩ := tj_step w.heap.size rec Wb W W2 w1 v _ pre t _ _ HF.out hzb HW2.out hlW hT2'.out hrow2 hgr Hown.out
    exact ⟨r1, rfl, ⟨_, r2⟩, r3⟩
  have hYe : ∀ pre R a b c (k : Nat) er W, TJ w.heap.size rec Wb pre R W → (er = 2 ∨ er = 4) → YieldAt Fence.wide (4 - 1) Tryz.prog (w.heap.size + 6) #[tokAgg a b c k, .int .i64 er] W fun e W' =>
      e = .returned (.bool false) ∧ TX w.heap.size rec Wb k er W' := by
    rintro pre R a b c k er W ⟨hF, hl, v, hT, hrow, rfl⟩ her
    rw [← hrec] at hl
    refine yield_round trivial hl rfl ?_
    rw [hrec] at hl ⊢
    unfold tokAgg
    gi_wp2
    have hlW : w.heap.size + 6 < W.heap.size := (Array.getElem?_eq_some_iff.1 hl).1
    refine ⟨(Below.heap_alloc _ _ _ hlW).trans hl, ?_⟩
    obtain ⟨W2, hW2⟩ : ∃ W2, ((W.alloc (.cells #[.int .i64 a, .string b, .int .i64 c, .int .i64 k] 142)).putObj (w.heap.size + 6) (.loop (rec .busy none))) = W2 := ⟨_, rfl⟩
    rw [hW2]
    have hz2 : W2.heap.size = W.heap.size + 1 := by rw [← hW2]; simp
    have hl2 : W2.heap[w.heap.size + 6]? = some (.loop (rec .busy none)) := by rw [← hW2]; exact World.putObj_heap_same (by simp; omega)
    have hF2 : ∀ k, k < W.heap.size → k ≠ w.heap.size + 6 → W2.heap[k]? = W.heap[k]? := by
      intro k hk hne; rw [← hW2]; exact (World.putObj_heap_other hne).trans (Below.heap_alloc _ _ _ hk)
    have hc2 : W2.heap[W.heap.size]? = some (.cells #[.int .i64 a, .string b, .int .i64 c, .int .i64 k] 142 (0, 0)) := by
      rw [← hW2]; exact (World.putObj_heap_other (by omega)).trans (World.alloc_heap_new _ _)
    have e2 : Boxed W2 w.heap.size 138 (.slice none 0 0) := (hF2 _ (by omega) (by omega)).trans ((hF.2.2.2.2 _ (by omega) (by simp)).trans h2b)
    have e3 : Boxed W2 (w.heap.size + 1) 3 (.int .i64 0) := (hF2 _ (by omega) (by omega)).trans ((hF.2.2.2.2 _ (by omega) (by simp)).trans h3b)
    have e4 : Boxed W2 (w.heap.size + 2) 33 (.int .i64 0) := (hF2 _ (by omega) (by omega)).trans ((hF.2.2.2.2 _ (by omega) (by simp)).trans h4b)
    have q3 := (cell_of_row W2 W.heap.size 3 _ _ _ hc2)
    have c2 := e2.cell
    have c3 := e3.cell
    have c4 := e4.cell
    have f2 := e2.frozen
    have f3 := e3.frozen
    have f4 := e4.frozen
    have hne : ((er : Int) != 0) = true := by rw [bne_iff_ne]; omega
    simp at q3
    have HF := Lib.hid hF
    have He2 := Lib.hid e2
    have He3 := Lib.hid e3
    have He4 := Lib.hid e4
    have HF2 := Lib.hid hF2
    have Hl2 := Lib.hid hl2
    have Hz2 := Lib.hid hz2
    have HW2 := Lib.hid hW2.symm
    clear hF2 hc2 hl2 hW2 hrow hT hF hl hz2 e2 e3 e4 her
    gi_wp2
    gi_region
    all_goals gi_wp2
    all_goals
      refine tx_perm w.heap.size rec Wb W W2 _ _ _ _ _ _ k er _ HF.out hzb HW2.out hlW He2.out He3.out He4.out ?_
      simp
  have hnow := all1_in 4 (by omega) s (by omega) (w.heap.size + 6) (w.heap.size + 3) (w.heap.size + 4) (w.heap.size + 7) (TJ w.heap.size rec Wb) (TX w.heap.size rec Wb)
    (fun _ _ _ _ h hb => h.below hb) (fun _ _ _ _ h hb => h.below hb) ?hR (by omega) hY hYe Wb ⟨hJ0, hlb, _, hTb, World.ownsRow_nil _ _ _ _, rfl⟩
  case hR =>
    rintro pre R W ⟨hF, hl, v, hT, hrow, rfl⟩
    have hWb2 : ∀ k, k < w.heap.size → W.heap[k]? = w.heap[k]? := fun k hk => (hF.2.2.2.2 k (by omega) (by simp; omega)).trans (hwb k hk)
    refine ⟨fun r e => hrow.lt r e, by have := hF.2.2.2.1; omega, ?_, ?_⟩
    · intro k hk
      exact (World.cell?_of_block (w := w) (hWb2 _ HK.out.lt)).trans (HK.out k hk)
    · have : Boxed W (w.heap.size + 4) 9 (.string s) := (hF.2.2.2.2 _ (by omega) (by simp)).trans hsb
      exact this.cell
  clear hY hYe hrec
  rw [hz0]
  refine hnow.mono ?_
  clear hnow
  rintro e W3 ⟨hv, hE⟩
  refine ⟨hv, ?_⟩
  clear hv
  have Hlx : Hid (lxs s = lx s.size s.data.toList) := Lib.hid (by unfold lxs; rw [if_neg (by omega)])
  unfold Ends at hE
  cases hx : lx s.size s.data.toList with
  | ok ts =>
    rw [hx] at hE
    obtain ⟨R, hF, hl, v, hT, hrow, rfl⟩ := hE
    refine .inl ⟨hl, ?_⟩
    have hl' : w.heap.size + 5 + 1 < W3.heap.size := (Array.getElem?_eq_some_iff.1 hl).1
    obtain ⟨W4, hW4⟩ : ∃ W4, W3.putObj (w.heap.size + 5 + 1) (.loop (rec .exhausted none)) = W4 := ⟨_, rfl⟩
    rw [hW4]
    have hz4 : W4.heap.size = W3.heap.size := by rw [← hW4]; simp
    have hF4 : ∀ k, k ≠ w.heap.size + 6 → W4.heap[k]? = W3.heap[k]? := fun k hk => by rw [← hW4]; exact World.putObj_heap_other hk
    have e2 : Boxed W4 w.heap.size 138 (.slice none 0 0) := (hF4 _ (by omega)).trans ((hF.2.2.2.2 _ (by omega) (by simp)).trans h2b)
    have e3 : Boxed W4 (w.heap.size + 1) 3 (.int .i64 0) := (hF4 _ (by omega)).trans ((hF.2.2.2.2 _ (by omega) (by simp)).trans h3b)
    have e4 : Boxed W4 (w.heap.size + 2) 33 (.int .i64 0) := (hF4 _ (by omega)).trans ((hF.2.2.2.2 _ (by omega) (by simp)).trans h4b)
    have eT : Boxed W4 (w.heap.size + 3) 138 v := (hF4 _ (by omega)).trans hT
    have hD : W4.heap[w.heap.size + 5]? = some (.deferred (some [])) := (hF4 _ (by omega)).trans ((hF.2.2.2.2 _ (by omega) (by simp)).trans hDb)
    have hrow4 : W4.ownsRow (w.heap.size + 7) 142 4 v ts.length (cellsOf ts) := by rw [← hW4]; exact ownsRow_putObj hrow _ hl rfl
    have hB4 : Below w.heap.size w W4 := ⟨by rw [← hW4]; exact hF.1.trans (by rw [← hWb, ← hw0]; rfl), by rw [← hW4]; exact hF.2.1.trans (by rw [← hWb, ← hw0]; rfl), by rw [← hW4]; exact hF.2.2.1.trans (by rw [← hWb, ← hw0]; rfl), by omega, fun k hk => (hF4 k (by omega)).trans ((hF.2.2.2.2 k (by omega) (by simp; omega)).trans (hwb k hk))⟩
    have c2 := e2.cell
    have c3 := e3.cell
    have c4 := e4.cell
    have cT := eT.cell
    have f2 := e2.frozen
    have f3 := e3.frozen
    have f4 := e4.frozen
    have HB4 := Lib.hid hB4
    have He2 := Lib.hid e2
    have He3 := Lib.hid e3
    have He4 := Lib.hid e4
    have HD := Lib.hid hD
    have Hrow4 := Lib.hid hrow4
    have Hx := Lib.hid hx
    clear hx hrow4 hD e2 e3 e4 eT hB4 hF hl hT hrow hl' hF4 hz4 hW4 hWb hJ0 hlb hDb hold h2b h3b h4b hTb hsb hwb hzb
    obtain ⟨a0, ln, cp, rfl⟩ : ∃ a0 ln cp, v = .slice a0 ln cp := by
      rcases Hrow4.out.2 with ⟨h, _⟩ | ⟨g, cap, cur, h, _⟩
      · exact ⟨_, _, _, h⟩
      · exact ⟨_, _, _, h⟩
    gi_wp2
    obtain ⟨X, hX⟩ : ∃ X, (((W4.setCell ⟨w.heap.size, 0, none⟩ (Value.slice a0 ln cp)).setCell ⟨w.heap.size + 1, 0, none⟩ (.int .i64 0)).setCell ⟨w.heap.size + 1 + 1, 0, none⟩ (.int .i64 0)) = X := ⟨_, rfl⟩
    rw [hX]
    have hXk : ∀ k, k ≠ w.heap.size → k ≠ w.heap.size + 1 → k ≠ w.heap.size + 2 → X.heap[k]? = W4.heap[k]? := by
      intro k k1 k2 k3; rw [← hX]
      exact (Below.heap_setCell _ ⟨w.heap.size + 2, 0, none⟩ _ _ k3).trans ((Below.heap_setCell _ ⟨w.heap.size + 1, 0, none⟩ _ _ k2).trans (Below.heap_setCell _ ⟨w.heap.size, 0, none⟩ _ _ k1))
    have x2 : Boxed X w.heap.size 138 (.slice a0 ln cp) := by rw [← hX]; exact ((He2.out.set _).other (by omega) _).other (by omega) _
    have x3 : Boxed X (w.heap.size + 1) 3 (.int .i64 0) := by rw [← hX]; exact ((He3.out.other (by omega) _).set _).other (by omega) _
    have x4 : Boxed X (w.heap.size + 1 + 1) 33 (.int .i64 0) := by rw [← hX]; exact ((He4.out.other (by omega) _).other (by omega) _).set _
    have xD := (hXk (w.heap.size + 5) (by omega) (by omega) (by omega)).trans HD.out
    have hsX : X.os = W4.os ∧ X.tape = W4.tape ∧ X.output = W4.output ∧ X.heap.size = W4.heap.size := by
      rw [← hX]; exact ⟨rfl, rfl, rfl, by rw [heap_setCell_size, heap_setCell_size, heap_setCell_size]⟩
    refine ⟨by simp, .inl ⟨_, _, rfl, run_takeDeferred xD, ?_⟩⟩
    obtain ⟨Y, hY⟩ : ∃ Y, X.putObj (w.heap.size + 5) (.deferred none) = Y := ⟨_, rfl⟩
    rw [hY]
    have hYk : ∀ k, k ≠ w.heap.size + 5 → Y.heap[k]? = X.heap[k]? := fun k hk => by rw [← hY]; exact World.putObj_heap_other hk
    have y2 : Boxed Y w.heap.size 138 (.slice a0 ln cp) := (hYk _ (by omega)).trans x2
    have y3 : Boxed Y (w.heap.size + 1) 3 (.int .i64 0) := (hYk _ (by omega)).trans x3
    have y4 : Boxed Y (w.heap.size + 1 + 1) 33 (.int .i64 0) := (hYk _ (by omega)).trans x4
    have d2 := y2.cell
    have d3 := y3.cell
    have d4 := y4.cell
    refine ⟨.tuple #[.slice a0 ln cp, .int .i64 0, .int .i64 0], by simp [results, Tryz.results106, go_sem, d2, d3, d4], ?_, .inl ⟨ts, _, by rw [Hlx.out, Hx.out], ?_, rfl, ?_⟩⟩
    · refine HB4.out.trans ⟨?_, ?_, ?_, ?_, fun k hk => (hYk k (by omega)).trans (hXk k (by omega) (by omega) (by omega))⟩
      · rw [← hY]; exact hsX.1
      · rw [← hY]; exact hsX.2.1
      · rw [← hY]; exact hsX.2.2.1
      · rw [← hY, World.putObj_size]; omega
    · have := lx_length s.size _ _ _ (Nat.le_refl _) Hx.out; simpa using this
    · rw [← hY]
      refine ownsRow_putObj (ownsRow_base (base := w.heap.size + 7) (by omega) ?_) _ xD rfl
      refine ⟨Hrow4.out.1, ?_⟩
      rcases Hrow4.out.2 with h | ⟨g, cap, cur, hv, hb, hgb, rest⟩
      · exact .inl h
      · exact .inr ⟨g, cap, cur, hv, hb, (hXk g (by omega) (by omega) (by omega)).trans hgb, rest⟩
  | error x =>
    obtain ⟨k, er⟩ := x
    rw [hx] at hE
    obtain ⟨hF, hl, e2, e3, e4⟩ := hE
    refine .inr ⟨hl, ?_⟩
    have hl' : w.heap.size + 5 + 1 < W3.heap.size := (Array.getElem?_eq_some_iff.1 hl).1
    obtain ⟨W4, hW4⟩ : ∃ W4, W3.putObj (w.heap.size + 5 + 1) (.loop (rec .exhausted (some .ret))) = W4 := ⟨_, rfl⟩
    rw [hW4]
    have hz4 : W4.heap.size = W3.heap.size := by rw [← hW4]; simp
    have hF4 : ∀ k, k ≠ w.heap.size + 6 → W4.heap[k]? = W3.heap[k]? := fun k hk => by rw [← hW4]; exact World.putObj_heap_other hk
    have hD : W4.heap[w.heap.size + 5]? = some (.deferred (some [])) := (hF4 _ (by omega)).trans ((hF.2.2.2.2 _ (by omega) (by simp)).trans hDb)
    have hB4 : Below w.heap.size w W4 := ⟨by rw [← hW4]; exact hF.1.trans (by rw [← hWb, ← hw0]; rfl), by rw [← hW4]; exact hF.2.1.trans (by rw [← hWb, ← hw0]; rfl), by rw [← hW4]; exact hF.2.2.1.trans (by rw [← hWb, ← hw0]; rfl), by omega, fun k hk => (hF4 k (by omega)).trans ((hF.2.2.2.2 k (by omega) (by simp; omega)).trans (hwb k hk))⟩
    refine ⟨by simp, .inl ⟨_, _, rfl, run_takeDeferred hD, ?_⟩⟩
    obtain ⟨Y, hY⟩ : ∃ Y, W4.putObj (w.heap.size + 5) (.deferred none) = Y := ⟨_, rfl⟩
    rw [hY]
    have hYk : ∀ k, k ≠ w.heap.size + 5 → Y.heap[k]? = W4.heap[k]? := fun k hk => by rw [← hY]; exact World.putObj_heap_other hk
    have y2 : Boxed Y w.heap.size 138 (.slice none 0 0) := (hYk _ (by omega)).trans ((hF4 _ (by omega)).trans e2)
    have y3 : Boxed Y (w.heap.size + 1) 3 (.int .i64 k) := (hYk _ (by omega)).trans ((hF4 _ (by omega)).trans e3)
    have y4 : Boxed Y (w.heap.size + 1 + 1) 33 (.int .i64 er) := (hYk _ (by omega)).trans ((hF4 _ (by omega)).trans e4)
    have d2 := y2.cell
    have d3 := y3.cell
    have d4 := y4.cell
    refine ⟨.tuple #[.slice none 0 0, .int .i64 k, .int .i64 er], by simp [results, Tryz.results106, go_sem, d2, d3, d4], ?_, .inr ⟨k, er, by rw [Hlx.out, hx], rfl, (lx_err s.size _ _ k er (Nat.le_refl _) hx).1⟩⟩
    exact hB4.trans ⟨by rw [← hY]; rfl, by rw [← hY]; rfl, by rw [← hY]; rfl, by rw [← hY, World.putObj_size]; omega, fun k hk => hYk k (by omega)⟩
set_option maxHeartbeats 400000 in
theorem tokens_long (s : ByteArray) (w : World) (hs : 8192 < s.size) (hs' : s.size ≤ 4611686018427387904) :
    Calls Tryz.prog 106 #[.string s] w (TokPost 142 s w) := by
  go_enter Tryz.func106, Tryz.ntmps106
  go_wp2
  refine bodyPost_ret (v := .tuple #[.slice none 0 0, .int .i64 0, .int .i64 4]) (by simp [results, Tryz.results106, go_sem]) rfl ⟨(((Below.refl _ _).alloc (Nat.le_refl _) _).alloc (by simp) _).alloc (by simp; omega) _, .inr ⟨0, 4, by unfold lxs; rw [if_pos hs], rfl, .inr rfl⟩⟩

theorem tokens_any (s : ByteArray) (w : World) (hs' : s.size ≤ 4611686018427387904) (hK : Kinds w) :
    Calls Tryz.prog 106 #[.string s] w (TokPost 142 s w) := by
  by_cases h : 8192 < s.size
  · exact tokens_long s w h hs'
  · exact callsIn_wide.1 (tokens_in s w (by omega) hK)

end Go.Proofs.YtfpcgjgkbniofaaGreatDoor
