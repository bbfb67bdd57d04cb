/- wide: String. -/
import Derived.Test.YtgfgjnkndfgdiaaDoorWBuild
import Derived.Test.YtgfgjnkndfgdiaaDoorWDivF
import Derived.Test.YtgfgjnkndfgdiaaDoorStr
import Derived.Maps.AppendAt
import Derived.Lib.ItoaMem
namespace Go.Proofs.YtgfgjnkndfgdiaaDoor
open Go.RowKit

abbrev P9 : Nat := 1000000000
theorem p9_two : 2 ≤ P9 := by decide
theorem p9_eq : P9 = 10 ^ 9 := by decide

/-- the groups of a text, the least first -/
def gtl : List Nat → List Tx
  | [] => []
  | [x] => [dec x]
  | x :: y :: l => pad 9 x :: gtl (y :: l)

theorem gtl_cons (x : Nat) (l : List Nat) : gtl (x :: l) = (if l = [] then dec x else pad 9 x) :: gtl l := by
  cases l with
  | nil => rfl
  | cons y l => rfl

theorem gtl_len : ∀ l : List Nat, (gtl l).length = l.length
  | [] => rfl
  | x :: l => by rw [gtl_cons, List.length_cons, gtl_len l]; rfl

theorem gtl_grp : ∀ l : List Nat, (gtl l).reverse.flatten = grp 9 l
  | [] => rfl
  | [x] => by simp [gtl, grp]
  | x :: y :: l => by
    have ih := gtl_grp (y :: l)
    rw [gtl, List.reverse_cons, List.flatten_append, ih, grp]
    simp

theorem gtl_dec (m : Nat) (hm : m ≠ 0) : (gtl (digs P9 m)).reverse.flatten = dec m := by
  rw [gtl_grp, grp_dec 9 (by omega) (digs P9 m) (fun h => hm ((digs_nil P9 m p9_two).1 h)) (digs_low P9 p9_two m) (.inl (digs_last P9 p9_two m))]
  exact congrArg dec (val_digs P9 p9_two m)

theorem gtl_step (r : Nat) (hr : r ≠ 0) : gtl (digs P9 r) = (if r / P9 = 0 then dec (r % P9) else pad 9 (r % P9)) :: gtl (digs P9 (r / P9)) := by
  rw [digs_pos P9 r p9_two hr, gtl_cons]
  by_cases h : r / P9 = 0
  · rw [h, if_pos (digs_zero P9), if_pos rfl]
  · rw [if_neg h, if_neg (fun h2 => h ((digs_nil P9 _ p9_two).1 h2))]

theorem lim_p9 : LIM ≤ P9 ^ 549 := by rw [← lim_w2]; decide +kernel
theorem p9_len (m : Nat) (h : m < LIM) : (digs P9 m).length ≤ 549 := digs_len_le P9 p9_two 549 m (Nat.lt_of_lt_of_le h lim_p9)

theorem gtl_text_len (l : List Nat) (hl : Low P9 l) : ∀ t ∈ gtl l, t.length ≤ 9 := by
  induction l with
  | nil => intro t ht; cases ht
  | cons x l ih =>
    rw [gtl_cons]
    intro t ht
    rcases List.mem_cons.1 ht with rfl | ht
    · have hx : x < 10 ^ 9 := hl x (List.mem_cons_self ..)
      split
      · exact dec_len_le x 9 (by omega) hx
      · rw [pad_len]; exact Nat.le_refl _
    · exact ih (fun y hy => hl y (List.mem_cons_of_mem _ hy)) t ht

/-- the table of powers that strconv reads -/
def Pow10 (w : World) : Prop := Lib.TabIs Tryd.prog w "internal/strconv.uint64pow10" .u64 Lib.pow10Tab
theorem gPow : Tryd.prog.globalNamed "internal/strconv.uint64pow10" = some 0 := by kernel_rfl
theorem Pow10.below {w w' : World} {B : Nat} (h : Pow10 w) (hb : Below B w w') (h0 : 0 < B) : Pow10 w' := by
  unfold Pow10 Lib.TabIs World.var? at h ⊢
  rw [gPow] at h ⊢
  simp only [Option.bind_some, hb.block _ h0] at h ⊢
  exact h
theorem Pow10.lt {w : World} (h : Pow10 w) : 0 < w.heap.size := by
  have hc := Lib.TabIs.cell h gPow 0 (by decide)
  exact World.block_lt_of_cell? w _ hc

theorem itoa_any (n : Nat) (w : World) (hn : n < 4294967296) (hT : Pow10 w) :
    Calls Tryd.prog 53 #[.int .i64 (n : Int)] w fun e w' => e = .returned (.string ⟨(dec n).toArray⟩) ∧ Below w.heap.size w w' := by
  refine (Tryd.strconv_Itoa (n : Int) (by omega) (by omega) w hT).mono ?_
  rintro e w' ⟨rfl, k, os, rfl⟩
  refine ⟨by rw [itoa_dec], ⟨rfl, rfl, rfl, ?_, fun j hj => ?_⟩⟩
  · show w.heap.size ≤ (w.heap ++ os).size
    rw [Array.size_append]; omega
  · show (w.heap ++ os)[j]? = w.heap[j]?
    rw [Array.getElem?_append_left hj]

theorem ba_append2 (a b : Tx) : (⟨a.toArray⟩ : ByteArray) ++ ⟨b.toArray⟩ = ⟨(a ++ b).toArray⟩ := by
  apply ByteArray.ext
  rw [ByteArray.data_append]
  simp

def lenV : Value → Nat
  | .slice _ l _ => l
  | _ => 0

def cntV : Value → Nat
  | .int _ i => (i + 1).toNat
  | _ => 0

theorem flat_len : ∀ (L : List Tx), (∀ t ∈ L, t.length ≤ 9) → (L.map List.length).sum ≤ 9 * L.length
  | [], _ => by simp
  | t :: L, h => by
    have h1 := flat_len L (fun u hu => h u (List.mem_cons_of_mem _ hu))
    have h2 := h t (List.mem_cons_self ..)
    simp only [List.map_cons, List.sum_cons, List.length_cons]
    omega

theorem infoStr : (Tryd.prog.info? 9).map (fun i => (i.zero, i.size, i.bytes)) = some (some (.string ⟨#[]⟩), 1, 16) := by kernel_rfl

theorem string_zero (a : Option Addr) (c : Nat) (_hc : c ≤ 9223372036854775807) (w : World) (b : Bool) :
    Calls Tryd.prog 19 #[.agg #[.bool b, .slice a 0 c]] w fun e w' => e = .returned (.string ⟨#[48]⟩) ∧ Below w.heap.size w w' := by
  go_enter Tryd.func19, Tryd.ntmps19
  go_wp2
  go_ret
  exact ⟨rfl, (Below.refl _ _).alloc (Nat.le_refl _) _⟩

set_option maxRecDepth 100000 in
set_option maxHeartbeats 4000000 in
theorem string_pos (sx : Bool) (a : Option Addr) (l c m : Nat) (w : World) (hm : MagAt w (.slice a l c) m) (hlm : m < LIM) (hm0 : m ≠ 0) (hT : Pow10 w) :
    Calls Tryd.prog 19 #[.agg #[.bool sx, .slice a l c]] w fun e w' => e = .returned (sv ((if sx then [45] else []) ++ dec m)) ∧ Below w.heap.size w w' := by
  obtain ⟨i0, hi, hz0, hz1, hz2⟩ := info_parts infoStr
  have Hi := Lib.hid hi
  have Hz0 := Lib.hid hz0
  have Hz1 := Lib.hid hz1
  have Hz2 := Lib.hid hz2
  clear hi hz0 hz1 hz2
  have HT := Lib.hid hT
  have Hm := Lib.hid hm
  have hg0 := hT.lt
  have hlen := (lim_len m).2 hlm
  have Hlm := Lib.hid hlm
  have Hgl := Lib.hid (p9_len m hlm)
  have hlpos : 0 < l := by
    obtain ⟨_, _, hv, _⟩ := hm
    injection hv with _ e _
    rw [e]
    exact List.length_pos_iff.2 (fun h => hm0 ((digs_nil W2 m w2_two).1 h))
  have hl0 : ((l : Int) == 0) = false := by simp; omega
  have hl1 : (l == 0) = false := by simp; omega
  clear hm hlm hT
  have HB1 := Lib.hid ((Below.refl w.heap.size w).alloc (Nat.le_refl _) (.cells #[.bool sx, .slice a l c] 33))
  have Hcl := Lib.hid (clone_mag (.slice a l c) m _ (RowAt.below Hm.out (Nat.le_refl _) HB1.out) (by omega))
  have HTw := Lib.hid (Two.new w 33 (.bool sx) (.slice a l c))
  have hsz : (w.alloc (.cells #[.bool sx, .slice a l c] 33)).heap.size = w.heap.size + 1 := by simp
  go_enter Tryd.func19, Tryd.ntmps19
  go_wp2_with fail
  refine Hcl.out.mono ?_
  rintro e w1 ⟨a1, l1, c1, rfl, hm1, hB⟩
  have HB1' := Lib.hid (HB1.out.trans (hB.mono (by omega)))
  have HTw1 := Lib.hid (HTw.out.below hB (by omega))
  have Hm1 := Lib.hid hm1
  have z1 : w.heap.size + 1 ≤ w1.heap.size := by rw [← hsz]; exact hB.size
  clear hB hm1 Hcl HB1 HTw hsz hl0 hl1
  go_wp2_with fail
  go_loopw [3, 4] (fun gv rv wr => ∃ (acc : List Tx) (r : Nat) (ga : Option Addr) (gc : Nat) (ra : Option Addr) (rc : Nat), gv = .slice ga acc.length gc ∧ rv = .slice ra (digs W2 r).length rc ∧ Hid (acc ++ gtl (digs P9 r) = gtl (digs P9 m)) ∧ Hid (r ≤ m) ∧ Hid (MagAt wr (.slice ra (digs W2 r).length rc) r) ∧
      Hid (wr.ownsRow w1.heap.size 9 1 (.slice ga acc.length gc) acc.length (acc.map sv)) ∧ Hid (Below w1.heap.size w1 wr)) (fun gv _ _ => 550 - lenV gv)
  case atStart =>
    obtain ⟨a', c', hv, hr⟩ := Hm1.out
    injection hv with e1 e2 e3
    subst e1 e2 e3
    exact ⟨[], m, none, 0, a1, c1, rfl, rfl, Lib.hid rfl, Lib.hid (Nat.le_refl _), Hm1, Lib.hid (World.ownsRow_nil _ _ _ _), Lib.hid (Below.refl _ _)⟩
  case round =>
    obtain ⟨acc, r, ga, gc, ra, rc, rfl, rfl, hacc, hrm, hmr, hown, hBr⟩ := hrel
    have z2 := hBr.out.size
    have HTr := Lib.hid (HT.out.below (HB1'.out.trans (hBr.out.mono (by omega))) hg0)
    have hrl : (digs W2 r).length ≤ 512 := Nat.le_trans (digs_len_mono W2 w2_two r m hrm.out) hlen
    have hrc : rc ≤ 9223372036854775807 := by
      obtain ⟨_, _, hv, _, h3, _⟩ := hmr.out
      injection hv with _ _ e
      omega
    have hgc : gc ≤ 9223372036854775807 := by
      rcases hown.out.2 with ⟨hv, _⟩ | ⟨_, _, _, hv, _, _, _, h3, _⟩
      · injection hv with _ _ e; omega
      · injection hv with _ _ e; unfold maxLen at h3; omega
    have hal : acc.length ≤ 549 := by
      have h3 := congrArg List.length hacc.out
      rw [List.length_append, gtl_len, gtl_len] at h3
      have := Hgl.out
      omega
    by_cases hr0 : r = 0
    · subst hr0
      rename World => w5
      have hG : acc = gtl (digs P9 m) := by
        have h3 := hacc.out
        rw [digs_zero, show gtl [] = [] from rfl, List.append_nil] at h3
        exact h3
      have HG := Lib.hid hG
      have h00 : (digs W2 0).length = 0 := by rw [digs_zero]; rfl
      rw [h00] at hrl hmr ⊢
      have HBw := Lib.hid (HB1'.out.trans (hBr.out.mono (by omega)))
      obtain ⟨wb, hwb⟩ : ∃ wb, w5.alloc (.cells #[.pointer none, .slice none 0 0] 83) = wb := ⟨_, rfl⟩
      have hzb : w5.heap.size < wb.heap.size := by rw [← hwb]; simp
      have hsx : wb.cell? ⟨w.heap.size, 0, none⟩ = some (.bool sx) := by
        rw [← hwb]
        exact ((HTw1.out.below hBr.out (by omega)).alloc _).cell0
      have HBb : Hid (Below w.heap.size w wb) := Lib.hid (by rw [← hwb]; exact HBw.out.alloc (by have := HBw.out.size; omega) _)
      have Hisb : Hid (Lib.IsBuilder 83 5 w5.heap.size w5.heap.size [] wb) := Lib.hid (by rw [← hwb]; exact Lib.fresh_isBuilder _ _ w5)
      have Hownb : Hid (wb.ownsRow w1.heap.size 9 1 (.slice ga acc.length gc) acc.length (acc.map sv)) := Lib.hid (by rw [← hwb]; exact hown.out.alloc _)
      have Hgown := Lib.hid hown.out.lt
      obtain ⟨g, gcap, hvg, _⟩ := hown.out.form (by rw [HG.out, gtl_len]; exact List.length_pos_iff.2 (fun h => hm0 ((digs_nil P9 m p9_two).1 h)))
      injection hvg with hv1 _ hv2
      subst hv1 hv2
      have hgb : g < w5.heap.size := (Hgown.out g rfl).2
      have Hcell : Hid (∀ j (h : j < acc.length), wb.cell? ⟨g, j, none⟩ = some (sv acc[j])) := Lib.hid (fun j hj => by
        rw [Hownb.out.cellAt j (by omega), List.getElem?_map, List.getElem?_eq_getElem hj]; rfl)
      have Hlens : Hid (∀ j (h : j < acc.length), acc[j].length ≤ 9) := Lib.hid (fun j hj => gtl_text_len _ (digs_low P9 p9_two m) _ (by rw [← HG.out]; exact List.getElem_mem hj))
      have hgtot : Hid (∀ j (h : j < acc.length) (sg : Tx), sg.length ≤ 1 → (sg ++ (acc.drop (j+1)).reverse.flatten).length + (⟨acc[j].toArray⟩ : ByteArray).size ≤ 140737488355328) := Lib.hid (fun j hj sg hsg => by
        have h1 := flat_len (acc.drop (j+1)) (fun t ht => by
          obtain ⟨i, hi, rfl⟩ := List.getElem_of_mem ht
          rw [List.getElem_drop]; exact Hlens.out _ _)
        have h2 := Hlens.out j hj
        have h3 : (⟨acc[j].toArray⟩ : ByteArray).size = acc[j].length := rfl
        rw [List.length_append, List.length_flatten, List.map_reverse, List.sum_reverse]
        rw [List.length_drop] at h1
        omega)
      clear hG h00 hrl hmr hrm hacc HTr HTw1 Hm1 Hm Hz0 Hz1 Hz2 Hi hown
      cases sx with
      | false =>
        have hsum : Hid (∀ k (h : k < acc.length), (([] : Tx) ++ (acc.drop (k+1)).reverse.flatten : Tx).length + (⟨acc[k].toArray⟩ : ByteArray).size ≤ 140737488355328) := Lib.hid (fun k h => hgtot.out k h [] (by simp))
        go_wp2
        go_loopw [9] (fun v wq => ∃ k : Nat, v = .int .i64 ((k : Int) - 1) ∧ k ≤ acc.length ∧ Hid (Lib.IsBuilder 83 5 w5.heap.size w5.heap.size (Lib.byteCells (([] : Tx) ++ (acc.drop k).reverse.flatten)) wq) ∧ Hid (Below w5.heap.size wb wq)) (fun v _ => cntV v)
        case atStart => exact ⟨acc.length, rfl, Nat.le_refl _, Lib.hid (by rw [List.drop_length]; exact Hisb.out), Lib.hid (Below.refl _ _)⟩
        case round =>
          obtain ⟨k, rfl, hk, hisb, hbq⟩ := hrel
          have hzq := hbq.out.size
          cases k with
          | zero =>
            rw [show (((0 : Nat) : Int) - 1) = -1 from rfl]
            go_wp2_with fail
            refine (btext_any w5.heap.size w5.heap.size _ _ hisb.out (by omega)).mono ?_
            rintro e w9 ⟨rfl, hB9⟩
            have HB9 := Lib.hid (HBb.out.trans ((hbq.out.trans (hB9.mono (by omega))).mono (by omega)))
            clear hB9
            go_wp2
            go_ret
            refine ⟨?_, HB9.out⟩
            rw [← gtl_dec m hm0, ← HG.out]
            rfl
          | succ k =>
            have hck : wr.cell? ⟨g, k, none⟩ = some (sv acc[k]) := (hbq.out.cell (p := ⟨g, k, none⟩) hgb).trans (Hcell.out k (by omega))
            have Hle := Lib.hid (Hlens.out k (by omega))
            have hsm := Lib.hid (hsum.out k (by omega))
            generalize hT9 : acc[k] = T9 at hck Hle hsm
            have HT9 := Lib.hid hT9
            clear hT9
            have e1 : ((k + 1 : Nat) : Int) - 1 = (k : Int) := by omega
            rw [e1]
            go_wp2_with fail
            refine (bstring_any w5.heap.size w5.heap.size _ ⟨T9.toArray⟩ _ hisb.out (by rw [Lib.byteCells, List.length_map]; exact hsm.out) (by omega)).mono ?_
            rintro e w9 ⟨rfl, hat, hB9⟩
            have HB9 := Lib.hid (hbq.out.trans hB9)
            have Hat : Hid (Lib.IsBuilder 83 5 w5.heap.size w5.heap.size (Lib.byteCells (([] : Tx) ++ (acc.drop k).reverse.flatten)) w9) := Lib.hid (.inr (by
              have e9 : Lib.strCells ⟨T9.toArray⟩ = Lib.byteCells T9 := rfl
              rw [e9] at hat
              rw [List.drop_eq_getElem_cons (by omega : k < acc.length), List.reverse_cons, List.flatten_append, HT9.out]
              simpa [Lib.byteCells] using hat))
            clear hat hB9 hck
            go_wp2
            go_roundw
            case rel => exact ⟨k, rfl, by omega, Hat, HB9⟩
            case measure => simp [cntV]
      | true =>
        have hsum : Hid (∀ k (h : k < acc.length), (([45] : Tx) ++ (acc.drop (k+1)).reverse.flatten : Tx).length + (⟨acc[k].toArray⟩ : ByteArray).size ≤ 140737488355328) := Lib.hid (fun k h => hgtot.out k h [45] (by simp))
        go_wp2_with fail
        refine (bbyte_any w5.heap.size w5.heap.size [] 45 wb Hisb.out (by simp) (by omega)).mono ?_
        rintro e ws ⟨rfl, hat, hBs⟩
        have HBs := Lib.hid hBs
        have Hat : Hid (Lib.IsBuilder 83 5 w5.heap.size w5.heap.size (Lib.byteCells [45]) ws) := Lib.hid (.inr hat)
        clear hat hBs
        go_wp2
        go_loopw [9] (fun v wq => ∃ k : Nat, v = .int .i64 ((k : Int) - 1) ∧ k ≤ acc.length ∧ Hid (Lib.IsBuilder 83 5 w5.heap.size w5.heap.size (Lib.byteCells (([45] : Tx) ++ (acc.drop k).reverse.flatten)) wq) ∧ Hid (Below w5.heap.size wb wq)) (fun v _ => cntV v)
        case atStart => exact ⟨acc.length, rfl, Nat.le_refl _, Lib.hid (by rw [List.drop_length]; exact Hat.out), HBs⟩
        case round =>
          obtain ⟨k, rfl, hk, hisb, hbq⟩ := hrel
          have hzq := hbq.out.size
          cases k with
          | zero =>
            rw [show (((0 : Nat) : Int) - 1) = -1 from rfl]
            go_wp2_with fail
            refine (btext_any w5.heap.size w5.heap.size _ _ hisb.out (by omega)).mono ?_
            rintro e w9 ⟨rfl, hB9⟩
            have HB9 := Lib.hid (HBb.out.trans ((hbq.out.trans (hB9.mono (by omega))).mono (by omega)))
            clear hB9
            go_wp2
            go_ret
            refine ⟨?_, HB9.out⟩
            rw [← gtl_dec m hm0, ← HG.out]
            rfl
          | succ k =>
            have hck : wr.cell? ⟨g, k, none⟩ = some (sv acc[k]) := (hbq.out.cell (p := ⟨g, k, none⟩) hgb).trans (Hcell.out k (by omega))
            have Hle := Lib.hid (Hlens.out k (by omega))
            have hsm := Lib.hid (hsum.out k (by omega))
            generalize hT9 : acc[k] = T9 at hck Hle hsm
            have HT9 := Lib.hid hT9
            clear hT9
            have e1 : ((k + 1 : Nat) : Int) - 1 = (k : Int) := by omega
            rw [e1]
            go_wp2_with fail
            refine (bstring_any w5.heap.size w5.heap.size _ ⟨T9.toArray⟩ _ hisb.out (by rw [Lib.byteCells, List.length_map]; exact hsm.out) (by omega)).mono ?_
            rintro e w9 ⟨rfl, hat, hB9⟩
            have HB9 := Lib.hid (hbq.out.trans hB9)
            have Hat : Hid (Lib.IsBuilder 83 5 w5.heap.size w5.heap.size (Lib.byteCells (([45] : Tx) ++ (acc.drop k).reverse.flatten)) w9) := Lib.hid (.inr (by
              have e9 : Lib.strCells ⟨T9.toArray⟩ = Lib.byteCells T9 := rfl
              rw [e9] at hat
              rw [List.drop_eq_getElem_cons (by omega : k < acc.length), List.reverse_cons, List.flatten_append, HT9.out]
              simpa [Lib.byteCells] using hat))
            clear hat hB9 hck
            go_wp2
            go_roundw
            case rel => exact ⟨k, rfl, by omega, Hat, HB9⟩
            case measure => simp [cntV]
    · have hrpos : 0 < (digs W2 r).length := List.length_pos_iff.2 (fun h => hr0 ((digs_nil W2 r w2_two).1 h))
      have hal2 : acc.length ≤ 548 := by
        have h3 := congrArg List.length hacc.out
        rw [List.length_append, gtl_len, gtl_len, digs_pos P9 r p9_two hr0, List.length_cons] at h3
        have := Hgl.out
        omega
      have Hd := Lib.hid (divf_any _ r P9 wr hmr.out (by decide) (by decide) (by omega))
      have Hst := Lib.hid (gtl_step r hr0)
      have hrem : r % P9 < 1000000000 := Nat.mod_lt _ (by decide)
      generalize hL : (digs W2 r).length = L at *
      have HL := Lib.hid hL
      clear hL
      go_wp2_with fail
      refine Hd.out.mono ?_
      rintro e w2 ⟨QL, qc, rfl, hm2, hB2⟩
      have Hm2 := Lib.hid hm2
      obtain ⟨hQL, q2⟩ : QL = (digs W2 (r / P9)).length ∧ QL ≤ qc ∧ qc ≤ 9223372036854775807 := by
        obtain ⟨_, _, hv, h4, h5, _⟩ := hm2
        injection hv with _ e1 e2
        exact ⟨e1, by omega, by omega⟩
      have HQL := Lib.hid hQL.symm
      have hgown := hown.out.lt
      have Hgown := Lib.hid hgown
      clear hQL hm2 hgown
      have HB2 := Lib.hid hB2
      have Hown2 := Lib.hid (hown.out.kept ⟨hB2.os, hB2.tape, hB2.output, hB2.size, fun k hk _ => hB2.block k hk⟩ (row := none) (by
        cases hb : (Value.slice ga acc.length gc).ownBlock with
        | none => exact .inl rfl
        | some k => exact .inr (by simp)))
      have z3 := hB2.size
      have HT2 := Lib.hid (HTr.out.below hB2 (by have := HTr.out.lt; exact this))
      clear hB2 Hd
      go_wp2_with fail
      refine (itoa_any (r % P9) w2 (by omega) HT2.out).mono ?_
      rintro e w3 ⟨rfl, hB3⟩
      have Hown3 := Lib.hid (Hown2.out.kept ⟨hB3.os, hB3.tape, hB3.output, hB3.size, fun k hk _ => hB3.block k hk⟩ (row := none) (by
        cases hb : (Value.slice ga acc.length gc).ownBlock with
        | none => exact .inl rfl
        | some k => exact .inr (by simp)))
      have z4 := hB3.size
      have HB3 := Lib.hid ((hBr.out.trans (HB2.out.mono z2)).trans (hB3.mono (by omega)))
      have Hm3 := Lib.hid (RowAt.below Hm2.out (Nat.le_refl _) hB3)
      have hpd := pad_dec 9 (r % P9) (by omega) hrem
      have hdl := hpd.2
      have Hpd := Lib.hid hpd.1
      clear hB3 hpd HB2 Hm2 Hown2
      obtain ⟨q, hq⟩ : ∃ q, r / P9 = q := ⟨_, rfl⟩
      have Hq := Lib.hid hq
      rw [hq] at Hst Hm3 HQL
      clear hq
      by_cases hq0 : q = 0
      · rw [if_pos hq0] at Hst
        obtain rfl : QL = 0 := by rw [← HQL.out, hq0]; rfl
        obtain ⟨D, hD⟩ : ∃ D, dec (r % P9) = D := ⟨_, rfl⟩
        rw [hD] at Hst hdl Hpd ⊢
        clear hD hq0
        go_wp2_with (at_builtin; refine wpList_append_own _ rfl _ _ 30 rfl w1.heap.size 9 i0 _ 1 16 Tryd.underlying30 Hi.out Hz0.out Hz1.out Hz2.out rfl (by decide) _ _ _ rfl (Hown3.out.alloc _) ⟨w3.heap.size, 0, none⟩ 1 1 [sv D] rfl rfl (cell_one_new _ _ _) (by simp [Value.oneCell', sv]) (by unfold maxLen; omega) (by omega) (by simp; omega) ?_)
        intro v5 w5 hown5 hgrow _
        obtain ⟨g5, cap5, hv5, _⟩ := hown5.form (by omega)
        subst hv5
        have Hown5 : Hid (w5.ownsRow w1.heap.size 9 1 (.slice (some ⟨g5, 0, none⟩) (acc ++ [D]).length cap5) (acc ++ [D]).length ((acc ++ [D]).map sv)) := Lib.hid (by rw [List.length_append, List.map_append]; exact hown5)
        have HB5 := Lib.hid ((HB3.out.alloc (by omega) (.cells #[sv D] 9)).grown hgrow (by simp; omega) (fun k e => (Hown3.out.lt k e).1))
        have Hm5 := Lib.hid (show MagAt w5 (.slice (some ⟨wr.heap.size, 0, none⟩) 0 qc) q from (RowAt.below Hm3.out (Nat.le_refl _) ((Below.refl _ _).alloc (Nat.le_refl _) (.cells #[sv D] 9))).grown hgrow (fun b off cp hv => by intro e; have h6 := Hgown.out b e.symm; injection hv with e1; injection e1 with e1; injection e1 with e1; omega))
        clear hown5 hgrow
        go_wp2
        go_roundw
        case rel => exact ⟨acc ++ [D], q, some ⟨g5, 0, none⟩, cap5, some ⟨wr.heap.size, 0, none⟩, qc, by simp, by rw [HQL.out], Lib.hid (by rw [List.append_assoc]; show acc ++ (D :: gtl (digs P9 q)) = _; rw [← hacc.out, Hst.out]), Lib.hid (by rw [← Hq.out]; exact Nat.le_trans (Nat.div_le_self _ _) hrm.out), Lib.hid (by rw [HQL.out]; exact Hm5.out), Hown5, HB5⟩
        case measure => simp [lenV]; omega
      · rw [if_neg hq0] at Hst
        have hlp : 0 < QL := by rw [← HQL.out]; exact List.length_pos_iff.2 (fun h => hq0 ((digs_nil W2 _ w2_two).1 h))
        have Hrp := Lib.hid (fun w => repeat_any ⟨#[48]⟩ (9 - (dec (r % P9)).length) w (by omega) (by show 1 * _ ≤ _; omega))
        obtain ⟨E, hE⟩ : ∃ E, pad 9 (r % P9) = E := ⟨_, rfl⟩
        have hEl : E.length = 9 := by rw [← hE]; exact pad_len _ _
        rw [hE] at Hst Hpd
        clear hE
        obtain ⟨D, hD⟩ : ∃ D, dec (r % P9) = D := ⟨_, rfl⟩
        have hcast : (9 : Int) - (D.length : Int) = ((9 - D.length : Nat) : Int) := by rw [← hD]; omega
        rw [hD] at Hrp hdl Hpd ⊢
        clear hD hq0
        go_wp2_with fail
        refine (Hrp.out w3).mono ?_
        rintro e w4 ⟨rfl, hB4⟩
        clear hcast
        obtain ⟨R, hR⟩ : ∃ R, Lib.repeatL [48] (9 - D.length) = R := ⟨_, rfl⟩
        have hRl : R.length ≤ 9 := by rw [← hR, repeat_zero, List.length_replicate]; omega
        have hcat : (⟨R.toArray⟩ : ByteArray) ++ ⟨D.toArray⟩ = ⟨E.toArray⟩ := by
          rw [← hR, repeat_zero, ba_append2, ← Hpd.out]
        rw [hR]
        clear hR
        have Hown4 := Lib.hid (Hown3.out.kept ⟨hB4.os, hB4.tape, hB4.output, hB4.size, fun k hk _ => hB4.block k hk⟩ (row := none) (by
          cases hb : (Value.slice ga acc.length gc).ownBlock with
          | none => exact .inl rfl
          | some k => exact .inr (by simp)))
        have z5 := hB4.size
        have HB4 := Lib.hid (HB3.out.trans (hB4.mono (by omega)))
        have Hm4 := Lib.hid (RowAt.below Hm3.out (Nat.le_refl _) hB4)
        clear hB4 Hown3 HB3 Hm3
        go_wp2_with (at_builtin; refine wpList_append_own _ rfl _ _ 30 rfl w1.heap.size 9 i0 _ 1 16 Tryd.underlying30 Hi.out Hz0.out Hz1.out Hz2.out rfl (by decide) _ _ _ rfl (Hown4.out.alloc _) ⟨w4.heap.size, 0, none⟩ 1 1 [sv E] rfl rfl (cell_one_new _ _ _) (by simp [Value.oneCell', sv]) (by unfold maxLen; omega) (by omega) (by simp; omega) ?_)
        intro v5 w5 hown5 hgrow _
        obtain ⟨g5, cap5, hv5, _⟩ := hown5.form (by omega)
        subst hv5
        have Hown5 : Hid (w5.ownsRow w1.heap.size 9 1 (.slice (some ⟨g5, 0, none⟩) (acc ++ [E]).length cap5) (acc ++ [E]).length ((acc ++ [E]).map sv)) := Lib.hid (by rw [List.length_append, List.map_append]; exact hown5)
        have HB5 := Lib.hid ((HB4.out.alloc (by omega) (.cells #[sv E] 9)).grown hgrow (by simp; omega) (fun k e => (Hown4.out.lt k e).1))
        have Hm5 := Lib.hid (show MagAt w5 (.slice (some ⟨wr.heap.size, 0, none⟩) QL qc) q from (RowAt.below Hm4.out (Nat.le_refl _) ((Below.refl _ _).alloc (Nat.le_refl _) (.cells #[sv E] 9))).grown hgrow (fun b off cp hv => by intro e; have h6 := Hgown.out b e.symm; injection hv with e1; injection e1 with e1; injection e1 with e1; omega))
        clear hown5 hgrow
        go_wp2
        go_roundw
        case rel => exact ⟨acc ++ [E], q, some ⟨g5, 0, none⟩, cap5, some ⟨wr.heap.size, 0, none⟩, qc, by simp, by rw [HQL.out], Lib.hid (by rw [List.append_assoc]; show acc ++ (E :: gtl (digs P9 q)) = _; rw [← hacc.out, Hst.out]), Lib.hid (by rw [← Hq.out]; exact Nat.le_trans (Nat.div_le_self _ _) hrm.out), Lib.hid (by rw [HQL.out]; exact Hm5.out), Hown5, HB5⟩
        case measure => simp [lenV]; omega

theorem string_any (v : Value) (z : Int) (w : World) (h : WInt w v z) (hz : z.natAbs < LIM) (hT : Pow10 w) :
    Calls Tryd.prog 19 #[v] w fun e w' => e = .returned (sv (decZ z)) ∧ Below w.heap.size w w' := by
  obtain ⟨a, n, cap, rfl, hm⟩ := h.form
  by_cases h0 : z = 0
  · subst h0
    obtain ⟨a', cap', hv, _, h2, _⟩ := hm
    injection hv with e1 e2 e3
    have e4 : n = 0 := by rw [e2, show (0 : Int).natAbs = 0 from rfl, digs_zero]; rfl
    rw [e4]
    refine (string_zero a cap (by omega) w _).mono ?_
    rintro e w' ⟨rfl, hB⟩
    exact ⟨rfl, hB⟩
  · refine (string_pos (decide (z < 0)) a n cap z.natAbs w hm hz (by omega) hT).mono ?_
    rintro e w' ⟨rfl, hB⟩
    refine ⟨?_, hB⟩
    unfold decZ
    by_cases hn : z < 0
    · rw [if_pos hn, decide_eq_true hn]; rfl
    · rw [if_neg hn, decide_eq_false hn]; rfl

end Go.Proofs.YtgfgjnkndfgdiaaDoor
