/- The generator of catalogs: its walk. -/
import Derived.Test.YtfpcgjgkbniofaaGreatDoorGGen
import Derived.Test.YtfpcgjgkbniofaaGreatDoorGFindJ
set_option linter.unusedVariables false
set_option linter.unusedSimpArgs false
namespace Go.Proofs.YtfpcgjgkbniofaaGreatDoor
open Go.RowKit
attribute [local go_sem] Oper.semAt_some

theorem wrap_mul (a b : Nat) (h : a * b ≤ 12) : IntKind.i64.wrap ((a : Int) * (b : Int)) = ((a * b : Nat) : Int) := by
  rw [← Int.natCast_mul]
  exact IntWalk.i64_in _ (by omega)

def genRel1 (w : World) (pk : Nat → Nat → Nat) (n : Nat) (t7 t8 : Value) (W : World) : Prop :=
  ∃ (i : Nat) (gi : Option Addr) (ci : Nat) (gw : Option Addr) (cw : Nat), i ≤ n ∧ ci ≤ 9223372036854775807 ∧ cw ≤ 9223372036854775807 ∧ t8 = .int .i64 i ∧ t7 = .slice gw i cw ∧ Hid (G1 w W pk i i (.slice gi i ci) (.slice gw i cw))

def genRel2 (w : World) (pk : Nat → Nat → Nat) (bal : Bool) (n : Nat) (vI vW : Value) (t9 : Value) (W : World) : Prop :=
  ∃ (i : Nat) (ar : Option Addr) (cr : Nat), i ≤ pk 7 7 ∧ cr ≤ 9223372036854775807 ∧ t9 = .int .i64 i ∧ Hid (GI w W pk bal n i vI vW (.slice ar i cr))
def genRel3 (w : World) (pk : Nat → Nat → Nat) (bal : Bool) (n i : Nat) (vI vW vR : Value) (g : Nat) (t11 : Value) (W : World) : Prop :=
  ∃ (k : Nat) (vt vg : Value), k ≤ gK pk i ∧ t11 = .int .i64 k ∧ Hid (GR w W pk bal n i vI vW vR g vt vg (gTake pk bal n i k) (gGive pk bal n i k))

set_option maxRecDepth 100000 in
set_option maxHeartbeats 12000000 in
theorem catalog_gen (v : Value) (pk : Nat → Nat → Nat) (bal : Bool) (w : World) (hp : Picks pk) (hv : PickIs w v pk) :
    Calls Tryz.prog 7 #[v, .bool bal] w fun e w' => (∃ vi vr, e = .returned (catV vi vr) ∧ CatAt w' vi vr (genCat pk bal)) ∧ Below w.heap.size w w' := by
  have HV := Lib.hid hv
  have HP := Lib.hid hp
  obtain ⟨n, hn⟩ : ∃ n, genN pk = n := ⟨_, rfl⟩
  have hn1 : 1 ≤ n := by have := genN_le hp; omega
  have hn5 : n ≤ 5 := by have := genN_le hp; omega
  have hp5 : pk 0 5 < 5 := hp.lt 0 5 (by omega)
  have HN := Lib.hid hn
  have hN : (1 : Int) + ((pk 0 5 : Nat) : Int) = (n : Int) := by unfold genN at hn; omega
  have HB := Lib.hid (Below.refl w.heap.size w)
  clear hv hp hn
  go_enter Tryz.func7, Tryz.ntmps7
  go_wp2_with fail
  obtain ⟨w1, hw1⟩ : ∃ W, (w.alloc (.cells #[.slice none 0 0, .slice none 0 0, .slice none 0 0, .slice none 0 0] 28)).alloc (.cells #[.slice none 0 0, .slice none 0 0, .slice none 0 0, .slice none 0 0] 28) = W := ⟨_, rfl⟩
  have HG : Hid (G1 w w1 pk 0 0 (.slice none 0 0) (.slice none 0 0)) := Lib.hid (by
    rw [← hw1]
    refine ⟨((Below.refl _ _).alloc (Nat.le_refl _) _).alloc (by simp) _, (BlkC.new _ _ _).alloc _, ?_, World.ownsRow_nil _ _ _ _, World.ownsRow_nil _ _ _ _, fun _ => rfl, fun _ => rfl⟩
    have := BlkC.new (w.alloc (.cells #[.slice none 0 0, .slice none 0 0, .slice none 0 0, .slice none 0 0] 28)) 28 [.slice none 0 0, .slice none 0 0, .slice none 0 0, .slice none 0 0]
    simpa using this)
  rw [hw1]
  clear hw1 HB
  refine (HV.out _ HG.out.b _ 0 _ 5 rfl rfl (by omega) (by omega) (by omega)).mono ?_
  rintro e w' ⟨rfl, rfl⟩
  go_wp2_with fail
  clear hN hp5
  go_loopw [7, 8] (genRel1 w pk n) (fun _ i _ => n - (intOf i).toNat)
  case atStart => exact ⟨0, none, 0, none, 0, by omega, by omega, by omega, rfl, rfl, HG⟩
  case round =>
    clear HG
    obtain ⟨i, gi, ci, gw, cw, hi, hci, hcw, rfl, rfl, HG⟩ := hrel
    by_cases hlt : i < n
    · have hltB : decide ((i : Int) < (n : Int)) = true := by simp; omega
      have hix : i < 6 := by omega
      have hixI : (i : Int) < 6 := by omega
      obtain ⟨nm, hnm⟩ : ∃ nm, itemNames[i]? = some nm := ⟨itemNames[i]'(by simp [itemNames]; omega), List.getElem?_eq_getElem _⟩
      have HNM := Lib.hid hnm
      clear hnm
      have hsz := HG.out.sz
      go_wp2_with fail
      refine startK 10 (fun W => W.cell? ⟨w.heap.size + 1, 0, none⟩ = some (.slice gi i ci)) (by kernel_rfl) (HG.out.x.cell 0) (fun hHeld => ?_)
      refine takeK 0 25 (v := ?_) rfl rfl (by kernel_rfl) (by kernel_rfl) (by kernel_rfl) (by kernel_rfl) (fun _ _ _ h => h) (by rfl) ?_ (by assumption) ?_
      rotate_left
      · (intro w hSw; go_simp; first | done | with_reducible rfl)
      simp only [List.setIfInBounds_toArray, List.set_cons_zero, List.set_cons_succ]
      refine takeK 1 26 (v := ?_) rfl rfl (by kernel_rfl) (by kernel_rfl) (by kernel_rfl) (by kernel_rfl) (fun _ _ _ h => h) (by rfl) ?_ (by assumption) ?_
      rotate_left
      · (intro w hSw; go_simp; first | done | with_reducible rfl)
      simp only [List.setIfInBounds_toArray, List.set_cons_zero, List.set_cons_succ]
      refine takeK 3 28 (v := ?_) rfl rfl (by kernel_rfl) (by kernel_rfl) (by kernel_rfl) (by kernel_rfl) (fun _ _ _ h => h) (by rfl) ?_ (by assumption) ?_
      rotate_left
      · (intro w hSw; go_simp; first | done | with_reducible rfl)
      simp only [List.setIfInBounds_toArray, List.set_cons_zero, List.set_cons_succ]
      refine stepK 2 (by kernel_rfl) rfl (fun K hK => ?_)
      go_simp
      refine (names_any _).mono ?_
      rintro e w2 ⟨rfl, hw2⟩
      have hB2 : Below wr.heap.size wr w2 := by rw [hw2]; exact (Below.refl _ _).drew.alloc (Nat.le_refl _) _
      have HNB : Hid (BlkC w2 wr.heap.size 9 (itemNames.map (fun n => .string ⟨n.toArray⟩))) := Lib.hid (by rw [hw2]; exact BlkC.new _ _ _)
      have nmc : w2.cell? ⟨wr.heap.size, i, none⟩ = some (.string ⟨nm.toArray⟩) := by rw [HNB.out.cell, List.getElem?_map, HNM.out]; rfl
      have HG2 := Lib.hid (HG.out.below hB2)
      clear hw2 HNB HG hHeld
      go_wp2_with fail
      refine hK.out _ _ (HG2.out.x.cell 0) (fun hHeld => ?_)
      clear hK K
      try simp only [Act.put, List.setIfInBounds_toArray, List.set_cons_zero, List.set_cons_succ]
      refine takeK 4 29 (v := ?_) rfl rfl (by kernel_rfl) (by kernel_rfl) (by kernel_rfl) (by kernel_rfl) (fun _ _ _ h => h) (by rfl) ?_ (by assumption) ?_
      rotate_left
      · (intro w hSw; go_simp; first | done | with_reducible rfl)
      simp only [List.setIfInBounds_toArray, List.set_cons_zero, List.set_cons_succ]
      refine stepK 5 (by kernel_rfl) rfl (fun K hK => ?_)
      go_simp
      go_wp2_with fail
      refine hK.out _ _ (hHeld) (fun hHeld => ?_)
      clear hK K
      try simp only [Act.put, List.setIfInBounds_toArray, List.set_cons_zero, List.set_cons_succ]
      refine takeK 6 31 (v := ?_) rfl rfl (by kernel_rfl) (by kernel_rfl) (by kernel_rfl) (by kernel_rfl) (fun _ _ _ h => h) (by rfl) ?_ (by assumption) ?_
      rotate_left
      · (intro w hSw; go_simp; first | done | with_reducible rfl)
      simp only [List.setIfInBounds_toArray, List.set_cons_zero, List.set_cons_succ]
      refine stepK 7 (by kernel_rfl) rfl (fun K hK => ?_)
      go_simp
      obtain ⟨w3, hw3⟩ : ∃ W, w2.alloc (.cells #[.string ⟨nm.toArray⟩, .bool false, .bool false, .bool false, .int .i64 0, .int .i64 0, .int .i64 0] 59) = W := ⟨_, rfl⟩
      have HK3 : Hid (BlkC w3 w2.heap.size 59 (itmC nm)) := Lib.hid (by rw [← hw3]; exact BlkC.new _ _ _)
      have hB3 : Below w2.heap.size w2 w3 := by rw [← hw3]; exact (Below.refl _ _).alloc (Nat.le_refl _) _
      have HG3 := Lib.hid (HG2.out.below hB3)
      rw [hw3]
      clear hw3 HG2 hB3 hB2 nmc hHeld
      go_wp2_with fail
      refine hK.out _ _ (HG3.out.x.cell 0) (fun hHeld => ?_)
      clear hK K
      try simp only [Act.put, List.setIfInBounds_toArray, List.set_cons_zero, List.set_cons_succ]
      refine stepK 8 (by kernel_rfl) rfl (fun K hK => ?_)
      refine step_app1 (W0 := w3) elemItem rfl _ _ rfl (itmC nm) w2.heap.size _ _ _ rfl rfl HK3.out rfl (by simp [itmC, zv, Value.oneCell']) HG3.out.it (Below.refl _ _) HG3.out.sz (by omega) (by omega) ?_
      intro g5 cap5 w5 Hown5 HB5 HO5 hcap5 hcap6
      have x5 : BlkC w5 (w.heap.size + 1) 28 _ := HG3.out.x.only HO5.out (fun hs => by have := (HG3.out.it.lt _ hs).1; omega)
      have x5f := x5.frozen
      have x5c := x5.cell 0
      clear hHeld
      go_wp2_with fail
      refine hK.out _ _ (x5.cell 0) (fun hHeld => ?_)
      clear hK K
      try simp only [Act.put, List.setIfInBounds_toArray, List.set_cons_zero, List.set_cons_succ]
      refine takeK 9 34 (v := ?_) rfl rfl (by kernel_rfl) (by kernel_rfl) (by kernel_rfl) (by kernel_rfl) (fun _ _ _ h => h) (by rfl) ?_ (by assumption) ?_
      rotate_left
      · (intro w hSw; go_simp; first | done | with_reducible rfl)
      simp only [List.setIfInBounds_toArray, List.set_cons_zero, List.set_cons_succ]
      obtain ⟨w6, hw6⟩ : ∃ W, w5.setCell ⟨w.heap.size + 1, 0, none⟩ (.slice (some ⟨g5, 0, none⟩) (i + 1) cap5) = W := ⟨_, rfl⟩
      have HG6 : Hid (G1 w w6 pk (i + 1) i (.slice (some ⟨g5, 0, none⟩) (i + 1) cap5) (.slice gw i cw)) := Lib.hid (by rw [← hw6]; exact HG3.out.items hix HNM.out HO5.out Hown5.out)
      clear HG3 HK3 HO5 HB5 Hown5
      refine lastK (by kernel_rfl) rfl (by kernel_rfl) (fun K hK => ?_)
      go_simp
      refine hK.out _ _ ?_
      clear hK K
      try simp only [Act.put, List.setIfInBounds_toArray, List.set_cons_zero, List.set_cons_succ]
      clear hHeld x5 x5f x5c hw6 hsz
      have hsz := HG6.out.sz
      go_wp2_with fail
      refine (HV.out _ HG6.out.b _ (1 + i) _ 4 (by omega) rfl (by omega) (by omega) (by omega)).mono ?_
      rintro e w' ⟨rfl, rfl⟩
      have hp4 := HP.out.lt (1 + i) 4 (by omega)
      go_wp2_with (at_builtin; refine wpList_app1 (W0 := w') elemInt rfl _ _ rfl [.int .i64 (1 + ((pk (1 + i) 4 : Nat) : Int))] 3 _ _ _ rfl rfl rfl (by simp [Value.oneCell']) HG6.out.wt (Below.refl _ _) HG6.out.sz (by omega) (by omega) ?_)
      intro g7 cap7 w7 Hown7 HB7 HO7 hcap7 hat7
      have HG7 := Lib.hid (HG6.out.weights HO7.out Hown7.out)
      clear HG6 Hown7 HB7 HO7 hat7
      go_wp2_with fail
      go_roundw
      case rel => exact ⟨i + 1, _, _, _, _, by omega, hcap5, hcap7, by go_num, rfl, HG7⟩
      case measure => simp [intOf]; omega
    · have hltB : decide ((i : Int) < (n : Int)) = false := by simp; omega
      obtain rfl : n = i := by omega
      have HGI : Hid (GI w wr pk bal n 0 (.slice gi n ci) (.slice gw n cw) (.slice none 0 0)) := Lib.hid (HG.out.gi (by omega))
      obtain ⟨bw, hbw⟩ : ∃ bw, gw = some ⟨bw, 0, none⟩ := by
        obtain ⟨b, cap, cs, hv, _⟩ := SliceOf.at_ HGI.out.wt 0 (by simp; omega)
        injection hv with e1 _ _
        exact ⟨b, e1⟩
      subst hbw
      clear HG hlt
      go_wp2_with fail
      clear hltB hi
      have hp7 := HP.out.lt 7 7 (by omega)
      go_loopw [9] (genRel2 w pk bal n (.slice gi n ci) (.slice (some ⟨bw, 0, none⟩) n cw)) (fun i _ => pk 7 7 - (intOf i).toNat)
      case atStart => exact ⟨0, none, 0, by omega, by omega, rfl, HGI⟩
      case round =>
        clear HGI
        obtain ⟨i, ar, cr, hi, hcr, rfl, HG⟩ := hrel
        have hsz := HG.out.sz
        go_wp2_with fail
        refine (HV.out _ HG.out.b _ 7 _ 7 rfl rfl (by omega) (by omega) (by omega)).mono ?_
        rintro e w' ⟨rfl, rfl⟩
        by_cases hlt : i < pk 7 7
        · have hltB : decide ((i : Int) < ((pk 7 7 : Nat) : Int)) = true := by simp; omega
          go_wp2_with fail
          refine (decimal_nat i _ (by omega)).mono ?_
          rintro e w' ⟨rfl, rfl⟩
          have hnm : (⟨#[114, 117, 108, 101]⟩ : ByteArray) ++ ⟨(dec i).toArray⟩ = ⟨(ruleTx i).toArray⟩ := ba_app [114, 117, 108, 101] (dec i)
          have hdl := dec_len7 i (by omega)
          simp only [sv]
          go_wp2_with fail
          clear hdl hnm
          obtain ⟨w2, hw2⟩ : ∃ W, w'.alloc (.cells #[.string ⟨(ruleTx i).toArray⟩, .bool false, .int .i64 0, .int .i64 0, .int .i64 1, .int .i64 1, .slice none 0 0, .slice none 0 0, .slice none 0 0] 63) = W := ⟨_, rfl⟩
          have hB2 : Below w'.heap.size w' w2 := by rw [← hw2]; exact (Below.refl _ _).alloc (Nat.le_refl _) _
          have HR : Hid (GR w w2 pk bal n i (.slice gi n ci) (.slice (some ⟨bw, 0, none⟩) n cw) (.slice ar i cr) w'.heap.size (.slice none 0 0) (.slice none 0 0) (gTake pk bal n i 0) (gGive pk bal n i 0)) := Lib.hid ⟨HG.out.below hB2, by rw [← hw2]; exact BlkC.new _ _ _, HG.out.sz, fun hb => by have := (HG.out.row _ hb).2.2; omega, SliceOf.nil _ _ (by omega), SliceOf.nil _ _ (by omega)⟩
          rw [hw2]
          have hgw : w.heap.size + 1 < w'.heap.size := by omega
          obtain ⟨g, hg⟩ : ∃ g, w'.heap.size = g := ⟨_, rfl⟩
          rw [hg] at HR hgw ⊢
          clear hw2 hB2 HG hltB hg hsz
          have hp8 := HP.out.lt (8 + 5 * i) 3 (by omega)
          have hgK : gK pk i = pk (8 + 5 * i) 3 / 2 + 1 := rfl
          obtain ⟨K0, hK0⟩ : ∃ K0, gK pk i = K0 := ⟨_, rfl⟩
          go_loopw [11] (genRel3 w pk bal n i (.slice gi n ci) (.slice (some ⟨bw, 0, none⟩) n cw) (.slice ar i cr) g) (fun k _ => gK pk i - (intOf k).toNat)
          case atStart => exact ⟨0, _, _, by omega, rfl, HR⟩
          case round =>
            clear HR
            obtain ⟨k, vt, vg, hk, rfl, HR⟩ := hrel
            have hk2 : k ≤ 2 := by omega
            have hsz := HR.out.gi.sz
            go_wp2_with fail
            refine (HV.out _ HR.out.gi.b _ (8 + 5 * i) _ 3 (by omega) rfl (by omega) (by omega) (by omega)).mono ?_
            rintro e w' ⟨rfl, rfl⟩
            by_cases hlt2 : k < gK pk i
            · have hltC : decide ((k : Int) ≤ ((pk (8 + 5 * i) 3 : Nat) : Int) / 2) = true := by simp; omega
              go_wp2_with fail
              refine (HV.out _ HR.out.gi.b _ (9 + 5 * i + 2 * k) _ n (by omega) rfl (by omega) (by omega) (by omega)).mono ?_
              rintro e w' ⟨rfl, rfl⟩
              go_wp2_with fail
              refine (HV.out _ HR.out.gi.b _ (10 + 5 * i + 2 * k) _ n (by omega) rfl (by omega) (by omega) (by omega)).mono ?_
              rintro e w' ⟨rfl, rfl⟩
              go_wp2_with fail
              refine (HV.out _ HR.out.gi.b _ (9 + 5 * i + 2 * k) _ 30 (by omega) rfl (by omega) (by omega) (by omega)).mono ?_
              rintro e w' ⟨rfl, rfl⟩
              obtain ⟨Y, hY⟩ : ∃ Y, gBy pk i k = Y := ⟨_, rfl⟩
              have hby : (1 : Int) + ((pk (9 + 5 * i + 2 * k) 30 : Nat) : Int) / 10 = (Y : Int) := by unfold gBy at hY; omega
              have hp30 := HP.out.lt (9 + 5 * i + 2 * k) 30 (by omega)
              have hY3 : Y ≤ 3 := by have := gBy_le HP.out i k; omega
              obtain ⟨A, hA⟩ : ∃ A, pk (9 + 5 * i + 2 * k) n = A := ⟨_, rfl⟩
              obtain ⟨B, hB⟩ : ∃ B, pk (10 + 5 * i + 2 * k) n = B := ⟨_, rfl⟩
              have hAn : A < n := by rw [← hA]; exact HP.out.lt _ _ (by omega)
              have hBn : B < n := by rw [← hB]; exact HP.out.lt _ _ (by omega)
              have HA : Hid (gA pk n i k = A) := Lib.hid hA
              have HBB : Hid (gB pk n i k = B) := Lib.hid hB
              have HY := Lib.hid hY
              rw [hA, hB]
              clear hA hB hY
              have m6 := HR.out.r.cell 6
              have m7 := HR.out.r.cell 7
              have mf := HR.out.r.frozen
              have ft := gTake_fits HP.out bal n i k (by omega) hk2
              have fg := gGive_fits HP.out bal n i k (by omega) hk2
              have FT := Lib.hid ft
              have FG := Lib.hid fg
              clear ft fg
              cases bal with
              | false =>
                go_wp2_with fail
                refine (put_any _ _ A Y _ HR.out.t FT.out.1 FT.out.2 (by omega) (by omega)).mono ?_
                rintro e w3 ⟨⟨v', rfl, hv'⟩, hB3⟩
                obtain ⟨a', c', rfl, hl', hc'⟩ := hv'.form
                have HR3 := Lib.hid (HR.out.below hB3)
                have HV3 := Lib.hid hv'
                clear m6 m7 mf hv' hB3 HR
                have m6 := HR3.out.r.cell 6
                have mf := HR3.out.r.frozen
                go_wp2_with fail
                obtain ⟨w4, hw4⟩ : ∃ W, w3.setCell ⟨g, 6, none⟩ (.slice a' (putA (gTake pk false n i k) A Y).length c') = W := ⟨_, rfl⟩
                have HR4 := Lib.hid (HR3.out.setT HV3.out)
                rw [hw4] at HR4 ⊢
                clear hw4 HR3 HV3 m6 mf hsz
                have W1 : IntKind.i64.wrap (5 * (i : Int)) = 5 * (i : Int) := IntWalk.i64_in _ (by omega)
                have W2 : IntKind.i64.wrap (10 + 5 * (i : Int)) = 10 + 5 * (i : Int) := IntWalk.i64_in _ (by omega)
                have W3 : IntKind.i64.wrap (2 * (k : Int)) = 2 * (k : Int) := IntWalk.i64_in _ (by omega)
                have W4 : IntKind.i64.wrap (10 + 5 * (i : Int) + 2 * (k : Int)) = 10 + 5 * (i : Int) + 2 * (k : Int) := IntWalk.i64_in _ (by omega)
                refine startK 15 (fun W => W.cell? ⟨g, 7, none⟩ = some vg) (by kernel_rfl) (HR4.out.r.cell 7) (fun hHeld => ?_)
                refine takeK 0 120 (v := ?_) rfl rfl (by kernel_rfl) (by kernel_rfl) (by kernel_rfl) (by kernel_rfl) (fun _ _ _ h => h) (by rfl) ?_ (by assumption) ?_
                rotate_left
                · (intro w hSw; go_simp; first | done | with_reducible rfl)
                simp only [List.setIfInBounds_toArray, List.set_cons_zero, List.set_cons_succ]
                refine takeK 1 121 (v := ?_) rfl rfl (by kernel_rfl) (by kernel_rfl) (by kernel_rfl) (by kernel_rfl) (fun _ _ _ h => h) (by rfl) ?_ (by assumption) ?_
                rotate_left
                · (intro w hSw; go_simp; first | done | with_reducible rfl)
                simp only [List.setIfInBounds_toArray, List.set_cons_zero, List.set_cons_succ]
                refine takeK 2 122 (v := ?_) rfl rfl (by kernel_rfl) (by kernel_rfl) (by kernel_rfl) (by kernel_rfl) (fun _ _ _ h => h) (by rfl) ?_ (by assumption) ?_
                rotate_left
                · (intro w hSw; go_simp; first | done | with_reducible rfl)
                simp only [List.setIfInBounds_toArray, List.set_cons_zero, List.set_cons_succ]
                refine takeK 3 123 (v := ?_) rfl rfl (by kernel_rfl) (by kernel_rfl) (by kernel_rfl) (by kernel_rfl) (fun _ _ _ h => h) (by rfl) ?_ (by assumption) ?_
                rotate_left
                · (intro w hSw; go_simp; first | done | with_reducible rfl)
                simp only [List.setIfInBounds_toArray, List.set_cons_zero, List.set_cons_succ]
                refine takeK 4 124 (v := ?_) rfl rfl (by kernel_rfl) (by kernel_rfl) (by kernel_rfl) (by kernel_rfl) (fun _ _ _ h => h) (by rfl) ?_ (by assumption) ?_
                rotate_left
                · (intro w hSw; go_simp; first | done | with_reducible rfl)
                simp only [List.setIfInBounds_toArray, List.set_cons_zero, List.set_cons_succ]
                refine takeK 5 125 (v := ?_) rfl rfl (by kernel_rfl) (by kernel_rfl) (by kernel_rfl) (by kernel_rfl) (fun _ _ _ h => h) (by rfl) ?_ (by assumption) ?_
                rotate_left
                · (intro w hSw; go_simp; first | done | with_reducible rfl)
                simp only [List.setIfInBounds_toArray, List.set_cons_zero, List.set_cons_succ]
                refine takeK 6 126 (v := ?_) rfl rfl (by kernel_rfl) (by kernel_rfl) (by kernel_rfl) (by kernel_rfl) (fun _ _ _ h => h) (by rfl) ?_ (by assumption) ?_
                rotate_left
                · (intro w hSw; go_simp; first | done | with_reducible rfl)
                simp only [List.setIfInBounds_toArray, List.set_cons_zero, List.set_cons_succ]
                refine takeK 7 127 (v := ?_) rfl rfl (by kernel_rfl) (by kernel_rfl) (by kernel_rfl) (by kernel_rfl) (fun _ _ _ h => h) (by rfl) ?_ (by assumption) ?_
                rotate_left
                · (intro w hSw; go_simp; first | done | with_reducible rfl)
                simp only [List.setIfInBounds_toArray, List.set_cons_zero, List.set_cons_succ]
                refine takeK 8 128 (v := ?_) rfl rfl (by kernel_rfl) (by kernel_rfl) (by kernel_rfl) (by kernel_rfl) (fun _ _ _ h => h) (by rfl) ?_ (by assumption) ?_
                rotate_left
                · (intro w hSw; go_simp; first | done | with_reducible rfl)
                simp only [List.setIfInBounds_toArray, List.set_cons_zero, List.set_cons_succ]
                refine takeK 9 129 (v := ?_) rfl rfl (by kernel_rfl) (by kernel_rfl) (by kernel_rfl) (by kernel_rfl) (fun _ _ _ h => h) (by rfl) ?_ (by assumption) ?_
                rotate_left
                · (intro w hSw; go_simp; first | done | with_reducible rfl)
                simp only [List.setIfInBounds_toArray, List.set_cons_zero, List.set_cons_succ]
                refine stepK 10 (by kernel_rfl) rfl (fun K hK => ?_)
                go_simp
                refine (HV.out _ HR4.out.gi.b.drew _ (10 + 5 * i + 2 * k) _ 40 (by omega) rfl (by omega) (by omega) (by omega)).mono ?_
                rintro e w5 ⟨rfl, hw5⟩
                have hB5 : Below w4.heap.size w4 w5 := by rw [hw5]; exact (Below.refl _ _).drew
                have HR5 := Lib.hid (HR4.out.below hB5)
                clear hw5 hB5 HR4 hHeld W1 W2 W3 W4
                have hp40 := HP.out.lt (10 + 5 * i + 2 * k) 40 (by omega)
                obtain ⟨p, hpp⟩ : ∃ p, pk (10 + 5 * i + 2 * k) 40 = p := ⟨_, rfl⟩
                have HPP : Hid (gGiveN pk false n i k = 1 + p / 10) := Lib.hid (by rw [← hpp]; rfl)
                rw [hpp] at hp40 ⊢
                clear hpp
                obtain ⟨q, hq⟩ : ∃ q, p / 10 = q := ⟨_, rfl⟩
                rw [hq] at HPP
                have W1 : IntKind.i64.wrap ((p : Int) / 10) = (q : Int) := by rw [IntWalk.i64_in _ (by omega)]; omega
                have W2 : IntKind.i64.wrap (1 + (q : Int)) = ((1 + q : Nat) : Int) := by rw [IntWalk.i64_in _ (by omega)]; omega
                have hq4 : q < 4 := by omega
                clear hq
                go_wp2_with fail
                refine hK.out _ _ (HR5.out.r.cell 7) (fun hHeld => ?_)
                clear hK K
                try simp only [Act.put, List.setIfInBounds_toArray, List.set_cons_zero, List.set_cons_succ]
                refine takeK 11 131 (v := ?_) rfl rfl (by kernel_rfl) (by kernel_rfl) (by kernel_rfl) (by kernel_rfl) (fun _ _ _ h => h) (by rfl) ?_ (by assumption) ?_
                rotate_left
                · (intro w hSw; go_simp; first | done | with_reducible rfl)
                simp only [List.setIfInBounds_toArray, List.set_cons_zero, List.set_cons_succ]
                refine takeK 12 132 (v := ?_) rfl rfl (by kernel_rfl) (by kernel_rfl) (by kernel_rfl) (by kernel_rfl) (fun _ _ _ h => h) (by rfl) ?_ (by assumption) ?_
                rotate_left
                · (intro w hSw; go_simp; first | done | with_reducible rfl)
                simp only [List.setIfInBounds_toArray, List.set_cons_zero, List.set_cons_succ]
                refine stepK 13 (by kernel_rfl) rfl (fun K hK => ?_)
                go_simp
                refine (put_any _ _ B (1 + q) _ HR5.out.g_ FG.out.1 FG.out.2 (by omega) (by omega)).mono ?_
                rintro e w6 ⟨⟨v6, rfl, hv6⟩, hB6⟩
                obtain ⟨a6, c6, rfl, hl6, hc6⟩ := hv6.form
                have HR6 := Lib.hid (HR5.out.below hB6)
                have HV6 := Lib.hid hv6
                clear hv6 hB6 HR5 hHeld W1 W2
                have m7 := HR6.out.r.cell 7
                have mf := HR6.out.r.frozen
                go_wp2_with fail
                refine hK.out _ _ (HR6.out.r.cell 7) (fun hHeld => ?_)
                clear hK K
                try simp only [Act.put, List.setIfInBounds_toArray, List.set_cons_zero, List.set_cons_succ]
                refine takeK 14 134 (v := ?_) rfl rfl (by kernel_rfl) (by kernel_rfl) (by kernel_rfl) (by kernel_rfl) (fun _ _ _ h => h) (by rfl) ?_ (by assumption) ?_
                rotate_left
                · (intro w hSw; go_simp; first | done | with_reducible rfl)
                simp only [List.setIfInBounds_toArray, List.set_cons_zero, List.set_cons_succ]
                obtain ⟨w7, hw7⟩ : ∃ W, w6.setCell ⟨g, 7, none⟩ (.slice a6 (putA (gGive pk false n i k) B (1 + q)).length c6) = W := ⟨_, rfl⟩
                have HR7 := Lib.hid (HR6.out.setG HV6.out)
                rw [hw7] at HR7
                clear HR6 HV6
                refine lastK (by kernel_rfl) rfl (by kernel_rfl) (fun K hK => ?_)
                go_simp
                refine hK.out _ _ ?_
                clear hK K
                try simp only [Act.put, List.setIfInBounds_toArray, List.set_cons_zero, List.set_cons_succ]
                clear hHeld m7 mf hw7
                go_wp2_with fail
                go_roundw
                case rel => exact ⟨k + 1, _, _, by omega, by go_num, Lib.hid (by rw [gTake, gGive, HA.out, HBB.out, HPP.out, show gTakeN pk false n i k = Y from HY.out]; exact HR7.out)⟩
                case measure => simp [intOf]; omega
              | true =>
                go_wp2_with fail
                obtain ⟨wb, hwb⟩ : ∃ wb, genW pk B = wb := ⟨_, rfl⟩
                have hwb4 : wb ≤ 4 := by have := genW_le HP.out B; omega
                have hm12 : wb * Y ≤ 12 := Nat.mul_le_mul hwb4 hY3
                have HW1 : Hid (genW pk B * Y = wb * Y) := Lib.hid (by rw [hwb])
                have W1 : IntKind.i64.wrap ((wb : Int) * (Y : Int)) = ((wb * Y : Nat) : Int) := wrap_mul wb Y hm12
                have hJI : (B : Int) < (n : Int) := by omega
                have hJc : w'.cell? ⟨bw, B, none⟩ = some (.int .i64 (wb : Int)) := by rw [HR.out.gi.wcell B (by omega), hwb]
                have HJ := Lib.hid hJc
                have HWB := Lib.hid hwb
                clear hwb hJc
                refine startK 11 (fun W => W.cell? ⟨g, 6, none⟩ = some vt ∧ W.cell? ⟨bw, B, none⟩ = some (.int .i64 (wb : Int))) (by kernel_rfl) (⟨HR.out.r.cell 6, HJ.out⟩) (fun hHeld => ?_)
                refine takeK 0 92 (v := ?_) rfl rfl (by kernel_rfl) (by kernel_rfl) (by kernel_rfl) (by kernel_rfl) (fun _ _ _ h => h) (by rfl) ?_ (by assumption) ?_
                rotate_left
                · (intro w hSw; go_simp; first | done | with_reducible rfl)
                simp only [List.setIfInBounds_toArray, List.set_cons_zero, List.set_cons_succ]
                refine takeK 1 93 (v := ?_) rfl rfl (by kernel_rfl) (by kernel_rfl) (by kernel_rfl) (by kernel_rfl) (fun _ _ _ h => h) (by rfl) ?_ (by assumption) ?_
                rotate_left
                · (intro w hSw; go_simp; first | done | with_reducible rfl)
                simp only [List.setIfInBounds_toArray, List.set_cons_zero, List.set_cons_succ]
                refine takeK 2 94 (v := ?_) rfl rfl (by kernel_rfl) (by kernel_rfl) (by kernel_rfl) (by kernel_rfl) (fun _ _ _ h => h) (by rfl) ?_ (by assumption) ?_
                rotate_left
                · (intro w hSw; go_simp; first | done | with_reducible rfl)
                simp only [List.setIfInBounds_toArray, List.set_cons_zero, List.set_cons_succ]
                refine takeK 3 95 (v := ?_) rfl rfl (by kernel_rfl) (by kernel_rfl) (by kernel_rfl) (by kernel_rfl) (fun _ _ _ h => h) (by rfl) ?_ (by assumption) ?_
                rotate_left
                · (intro w hSw; go_simp; first | done | with_reducible rfl)
                simp only [List.setIfInBounds_toArray, List.set_cons_zero, List.set_cons_succ]
                refine takeK 4 96 (v := ?_) rfl rfl (by kernel_rfl) (by kernel_rfl) (by kernel_rfl) (by kernel_rfl) (fun _ _ _ h => h) (by rfl) ?_ (by assumption) ?_
                rotate_left
                · (intro w hSw; go_simp; first | done | with_reducible rfl)
                simp only [List.setIfInBounds_toArray, List.set_cons_zero, List.set_cons_succ]
                refine takeK 5 97 (v := ?_) rfl rfl (by kernel_rfl) (by kernel_rfl) (by kernel_rfl) (by kernel_rfl) (fun _ _ _ h => h) (by rfl) ?_ (by assumption) ?_
                rotate_left
                · (intro w hSw; go_simp; first | done | with_reducible rfl)
                simp only [List.setIfInBounds_toArray, List.set_cons_zero, List.set_cons_succ]
                refine takeK 6 98 (v := ?_) rfl rfl (by kernel_rfl) (by kernel_rfl) (by kernel_rfl) (by kernel_rfl) (fun _ _ _ h => h) (by rfl) ?_ (by assumption) ?_
                rotate_left
                · (intro w hSw; go_simp; first | done | with_reducible rfl)
                simp only [List.setIfInBounds_toArray, List.set_cons_zero, List.set_cons_succ]
                refine takeK 7 99 (v := ?_) rfl rfl (by kernel_rfl) (by kernel_rfl) (by kernel_rfl) (by kernel_rfl) (fun _ _ _ h => h) (by rfl) ?_ (by assumption) ?_
                rotate_left
                · (intro w hSw; go_simp; first | done | with_reducible rfl)
                simp only [List.setIfInBounds_toArray, List.set_cons_zero, List.set_cons_succ]
                refine takeK 8 100 (v := ?_) rfl rfl (by kernel_rfl) (by kernel_rfl) (by kernel_rfl) (by kernel_rfl) (fun _ _ _ h => h) (by rfl) ?_ (by assumption) ?_
                rotate_left
                · (intro w hSw; go_simp; first | done | with_reducible rfl)
                simp only [List.setIfInBounds_toArray, List.set_cons_zero, List.set_cons_succ]
                refine stepK 9 (by kernel_rfl) rfl (fun K hK => ?_)
                go_simp
                refine (put_any _ _ A (wb * Y) _ (HR.out.below (Below.refl _ _).drew).t FT.out.1 FT.out.2 (by omega) (by omega)).mono ?_
                rintro e w3 ⟨⟨v', rfl, hv'⟩, hB3⟩
                obtain ⟨a', c', rfl, hl', hc'⟩ := hv'.form
                have HRn := Lib.hid ((HR.out.below (Below.refl _ _).drew).below hB3)
                have HVn := Lib.hid hv'
                have HJn : Hid (w3.cell? ⟨bw, B, none⟩ = some (.int .i64 (wb : Int))) := Lib.hid (by rw [HRn.out.gi.wcell B (by omega), HWB.out])
                clear hv' hB3 HR hHeld W1 HJ
                have mm := HRn.out.r.cell 6
                have mf := HRn.out.r.frozen
                go_wp2_with fail
                refine hK.out _ _ (⟨HRn.out.r.cell 6, HJn.out⟩) (fun hHeld => ?_)
                clear hK K
                try simp only [Act.put, List.setIfInBounds_toArray, List.set_cons_zero, List.set_cons_succ]
                refine takeK 10 102 (v := ?_) rfl rfl (by kernel_rfl) (by kernel_rfl) (by kernel_rfl) (by kernel_rfl) (fun _ _ _ h => h) (by rfl) ?_ (by assumption) ?_
                rotate_left
                · (intro w hSw; go_simp; first | done | with_reducible rfl)
                simp only [List.setIfInBounds_toArray, List.set_cons_zero, List.set_cons_succ]
                obtain ⟨w4, hwl⟩ : ∃ W, w3.setCell ⟨g, 6, none⟩ (.slice a' (putA (gTake pk true n i k) A (wb * Y)).length c') = W := ⟨_, rfl⟩
                have HR4 := Lib.hid (HRn.out.setT HVn.out)
                rw [hwl] at HR4
                clear HRn HVn HJn
                refine lastK (by kernel_rfl) rfl (by kernel_rfl) (fun K hK => ?_)
                go_simp
                refine hK.out _ _ ?_
                clear hK K
                try simp only [Act.put, List.setIfInBounds_toArray, List.set_cons_zero, List.set_cons_succ]
                clear hHeld mm mf hwl hwb4 hm12 hJI
                go_wp2_with fail
                obtain ⟨wb, hwb⟩ : ∃ wb, genW pk A = wb := ⟨_, rfl⟩
                have hwb4 : wb ≤ 4 := by have := genW_le HP.out A; omega
                have hm12 : wb * Y ≤ 12 := Nat.mul_le_mul hwb4 hY3
                have HW2 : Hid (genW pk A * Y = wb * Y) := Lib.hid (by rw [hwb])
                have W1 : IntKind.i64.wrap ((wb : Int) * (Y : Int)) = ((wb * Y : Nat) : Int) := wrap_mul wb Y hm12
                have hJI : (A : Int) < (n : Int) := by omega
                have hJc : w4.cell? ⟨bw, A, none⟩ = some (.int .i64 (wb : Int)) := by rw [HR4.out.gi.wcell A (by omega), hwb]
                have HJ := Lib.hid hJc
                have HWA := Lib.hid hwb
                clear hwb hJc
                refine startK 11 (fun W => W.cell? ⟨g, 7, none⟩ = some vg ∧ W.cell? ⟨bw, A, none⟩ = some (.int .i64 (wb : Int))) (by kernel_rfl) (⟨HR4.out.r.cell 7, HJ.out⟩) (fun hHeld => ?_)
                refine takeK 0 103 (v := ?_) rfl rfl (by kernel_rfl) (by kernel_rfl) (by kernel_rfl) (by kernel_rfl) (fun _ _ _ h => h) (by rfl) ?_ (by assumption) ?_
                rotate_left
                · (intro w hSw; go_simp; first | done | with_reducible rfl)
                simp only [List.setIfInBounds_toArray, List.set_cons_zero, List.set_cons_succ]
                refine takeK 1 104 (v := ?_) rfl rfl (by kernel_rfl) (by kernel_rfl) (by kernel_rfl) (by kernel_rfl) (fun _ _ _ h => h) (by rfl) ?_ (by assumption) ?_
                rotate_left
                · (intro w hSw; go_simp; first | done | with_reducible rfl)
                simp only [List.setIfInBounds_toArray, List.set_cons_zero, List.set_cons_succ]
                refine takeK 2 105 (v := ?_) rfl rfl (by kernel_rfl) (by kernel_rfl) (by kernel_rfl) (by kernel_rfl) (fun _ _ _ h => h) (by rfl) ?_ (by assumption) ?_
                rotate_left
                · (intro w hSw; go_simp; first | done | with_reducible rfl)
                simp only [List.setIfInBounds_toArray, List.set_cons_zero, List.set_cons_succ]
                refine takeK 3 106 (v := ?_) rfl rfl (by kernel_rfl) (by kernel_rfl) (by kernel_rfl) (by kernel_rfl) (fun _ _ _ h => h) (by rfl) ?_ (by assumption) ?_
                rotate_left
                · (intro w hSw; go_simp; first | done | with_reducible rfl)
                simp only [List.setIfInBounds_toArray, List.set_cons_zero, List.set_cons_succ]
                refine takeK 4 107 (v := ?_) rfl rfl (by kernel_rfl) (by kernel_rfl) (by kernel_rfl) (by kernel_rfl) (fun _ _ _ h => h) (by rfl) ?_ (by assumption) ?_
                rotate_left
                · (intro w hSw; go_simp; first | done | with_reducible rfl)
                simp only [List.setIfInBounds_toArray, List.set_cons_zero, List.set_cons_succ]
                refine takeK 5 108 (v := ?_) rfl rfl (by kernel_rfl) (by kernel_rfl) (by kernel_rfl) (by kernel_rfl) (fun _ _ _ h => h) (by rfl) ?_ (by assumption) ?_
                rotate_left
                · (intro w hSw; go_simp; first | done | with_reducible rfl)
                simp only [List.setIfInBounds_toArray, List.set_cons_zero, List.set_cons_succ]
                refine takeK 6 109 (v := ?_) rfl rfl (by kernel_rfl) (by kernel_rfl) (by kernel_rfl) (by kernel_rfl) (fun _ _ _ h => h) (by rfl) ?_ (by assumption) ?_
                rotate_left
                · (intro w hSw; go_simp; first | done | with_reducible rfl)
                simp only [List.setIfInBounds_toArray, List.set_cons_zero, List.set_cons_succ]
                refine takeK 7 110 (v := ?_) rfl rfl (by kernel_rfl) (by kernel_rfl) (by kernel_rfl) (by kernel_rfl) (fun _ _ _ h => h) (by rfl) ?_ (by assumption) ?_
                rotate_left
                · (intro w hSw; go_simp; first | done | with_reducible rfl)
                simp only [List.setIfInBounds_toArray, List.set_cons_zero, List.set_cons_succ]
                refine takeK 8 111 (v := ?_) rfl rfl (by kernel_rfl) (by kernel_rfl) (by kernel_rfl) (by kernel_rfl) (fun _ _ _ h => h) (by rfl) ?_ (by assumption) ?_
                rotate_left
                · (intro w hSw; go_simp; first | done | with_reducible rfl)
                simp only [List.setIfInBounds_toArray, List.set_cons_zero, List.set_cons_succ]
                refine stepK 9 (by kernel_rfl) rfl (fun K hK => ?_)
                go_simp
                refine (put_any _ _ B (wb * Y) _ (HR4.out.below (Below.refl _ _).drew).g_ FG.out.1 FG.out.2 (by omega) (by omega)).mono ?_
                rintro e w5 ⟨⟨v', rfl, hv'⟩, hB3⟩
                obtain ⟨a', c', rfl, hl', hc'⟩ := hv'.form
                have HRn := Lib.hid ((HR4.out.below (Below.refl _ _).drew).below hB3)
                have HVn := Lib.hid hv'
                have HJn : Hid (w5.cell? ⟨bw, A, none⟩ = some (.int .i64 (wb : Int))) := Lib.hid (by rw [HRn.out.gi.wcell A (by omega), HWA.out])
                clear hv' hB3 HR4 hHeld W1 HJ
                have mm := HRn.out.r.cell 7
                have mf := HRn.out.r.frozen
                go_wp2_with fail
                refine hK.out _ _ (⟨HRn.out.r.cell 7, HJn.out⟩) (fun hHeld => ?_)
                clear hK K
                try simp only [Act.put, List.setIfInBounds_toArray, List.set_cons_zero, List.set_cons_succ]
                refine takeK 10 113 (v := ?_) rfl rfl (by kernel_rfl) (by kernel_rfl) (by kernel_rfl) (by kernel_rfl) (fun _ _ _ h => h) (by rfl) ?_ (by assumption) ?_
                rotate_left
                · (intro w hSw; go_simp; first | done | with_reducible rfl)
                simp only [List.setIfInBounds_toArray, List.set_cons_zero, List.set_cons_succ]
                obtain ⟨w6, hwl⟩ : ∃ W, w5.setCell ⟨g, 7, none⟩ (.slice a' (putA (gGive pk true n i k) B (wb * Y)).length c') = W := ⟨_, rfl⟩
                have HR8 := Lib.hid (HRn.out.setG HVn.out)
                rw [hwl] at HR8
                clear HRn HVn HJn
                refine lastK (by kernel_rfl) rfl (by kernel_rfl) (fun K hK => ?_)
                go_simp
                refine hK.out _ _ ?_
                clear hK K
                try simp only [Act.put, List.setIfInBounds_toArray, List.set_cons_zero, List.set_cons_succ]
                clear hHeld mm mf hwl hwb4 hm12 hJI
                go_wp2_with fail
                go_roundw
                case rel => exact ⟨k + 1, _, _, by omega, by go_num, Lib.hid (by rw [gTake, gGive, HA.out, HBB.out, show gTakeN pk true n i k = genW pk (gB pk n i k) * gBy pk i k from rfl, show gGiveN pk true n i k = genW pk (gA pk n i k) * gBy pk i k from rfl, HA.out, HBB.out, HY.out, HWA.out, HWB.out]; exact HR8.out)⟩
                case measure => simp [intOf]; omega
            · have hltC : decide ((k : Int) ≤ ((pk (8 + 5 * i) 3 : Nat) : Int) / 2) = false := by simp; omega
              have HKK : Hid (k = gK pk i) := Lib.hid (by omega)
              clear hgK hK0
              obtain ⟨at', ct, rfl, ht1, ht2⟩ := HR.out.t.form
              obtain ⟨ag, cg, rfl, hg1, hg2⟩ := HR.out.g_.form
              go_wp2_with fail
              refine (HV.out _ HR.out.gi.b _ (11 + 5 * i) _ 10 (by omega) rfl (by omega) (by omega) (by omega)).mono ?_
              rintro e w' ⟨rfl, rfl⟩
              obtain ⟨how, hhow⟩ : ∃ how, pk (11 + 5 * i) 10 = how := ⟨_, rfl⟩
              have HH := Lib.hid hhow
              have h10 : how < 10 := by rw [← hhow]; exact HP.out.lt _ _ (by omega)
              rw [hhow]
              clear hhow hltC
              have x1 := HR.out.gi.x.cell 1
              have m0 := HR.out.r.cell 0
              have m1 := HR.out.r.cell 1
              have m2 := HR.out.r.cell 2
              have m3 := HR.out.r.cell 3
              have m4 := HR.out.r.cell 4
              have m5 := HR.out.r.cell 5
              have m6 := HR.out.r.cell 6
              have m7 := HR.out.r.cell 7
              have m8 := HR.out.r.cell 8
              have mf := HR.out.r.frozen
              by_cases h3 : how < 3
              · have h3B : decide ((how : Int) < 3) = true := by simp; omega
                have h9B : ((how : Int) == 9) = false := by simp; omega
                by_cases hb : bal = true ∨ how = 0
                · obtain ⟨w2, hw2⟩ : ∃ W, (w'.setCell ⟨g, 5, none⟩ (.int .i64 2)).setCell ⟨g, 8, none⟩ (.slice at' (gTake pk bal n i k).length ct) = W := ⟨_, rfl⟩
                  have hO : Only (fun b => b = g) w' w2 := by
                    rw [← hw2]
                    repeat (refine Only.trans ?_ (only_set _ _ _ _))
                    exact Only.refl _ _
                  have HE := Lib.hid (HR.out.any hO)
                  have HGI := Lib.hid HE.out.1
                  have HRU : Hid (RulAt w2 (gRule pk bal n i) [nmV (ruleTx i), .bool false, .int .i64 0, .int .i64 0, .int .i64 1, .int .i64 2, .slice at' (gTake pk bal n i k).length ct, .slice ag (gGive pk bal n i k).length cg, .slice at' (gTake pk bal n i k).length ct]) := Lib.hid (by
                    rw [gRule_lo HH.out h3 hb, ← HKK.out]
                    exact ⟨_, _, _, rfl, HE.out.2.1, HE.out.2.2, HE.out.2.1⟩)
                  have HW2 := Lib.hid hw2
                  have HS2 : Hid (w'.heap.size = w2.heap.size) := Lib.hid (by rw [← hw2]; simp)
                  clear hO HR HE hw2
                  rcases hb with rfl | h0
                  · skip
                    obtain ⟨css, hcl, hc9, hcw, hcr⟩ := HGI.out.rl
                    have HCW := Lib.hid hcw
                    have HCR := Lib.hid hcr
                    have HCL := Lib.hid hcl
                    have HC9 := Lib.hid hc9
                    clear hcw hcr hcl hc9
                    go_wp2_with (at_builtin; rw [HW2.out, HS2.out]; refine wpList_app1 (W0 := w2) elemRule rfl _ _ rfl _ 63 _ _ _ rfl rfl rfl (by simp [Value.oneCell', nmV]) HCW.out (Below.refl _ _) HGI.out.sz (by omega) (by omega) ?_)
                    clear m0 m1 m2 m3 m4 m5 m6 m7 m8 mf x1
                    intro g7 cap7 w7 Hown7 HB7 HO7 hcap7 hat7
                    have HG8 := Lib.hid (HGI.out.grow HCL.out HC9.out HCR.out HRU.out rfl HO7.out Hown7.out)
                    have x7 : BlkC w7 (w.heap.size + 1) 28 _ := HGI.out.x.only HO7.out (fun hs => by have := (HGI.out.row _ hs).1; omega)
                    have x7f := x7.frozen
                    have x7c := x7.cell 1
                    clear HGI Hown7 HB7 HO7 hat7 x7
                    go_wp2_with fail
                    go_roundw
                    case rel => exact ⟨i + 1, _, _, by omega, hcap7, by go_num, HG8⟩
                    case measure => simp [intOf]; omega
                  · have h0B : ((how : Int) == 0) = true := by simp; omega
                    clear h0
                    cases bal with
                    | true =>
                      skip
                      obtain ⟨css, hcl, hc9, hcw, hcr⟩ := HGI.out.rl
                      have HCW := Lib.hid hcw
                      have HCR := Lib.hid hcr
                      have HCL := Lib.hid hcl
                      have HC9 := Lib.hid hc9
                      clear hcw hcr hcl hc9
                      go_wp2_with (at_builtin; rw [HW2.out, HS2.out]; refine wpList_app1 (W0 := w2) elemRule rfl _ _ rfl _ 63 _ _ _ rfl rfl rfl (by simp [Value.oneCell', nmV]) HCW.out (Below.refl _ _) HGI.out.sz (by omega) (by omega) ?_)
                      clear m0 m1 m2 m3 m4 m5 m6 m7 m8 mf x1
                      intro g7 cap7 w7 Hown7 HB7 HO7 hcap7 hat7
                      have HG8 := Lib.hid (HGI.out.grow HCL.out HC9.out HCR.out HRU.out rfl HO7.out Hown7.out)
                      have x7 : BlkC w7 (w.heap.size + 1) 28 _ := HGI.out.x.only HO7.out (fun hs => by have := (HGI.out.row _ hs).1; omega)
                      have x7f := x7.frozen
                      have x7c := x7.cell 1
                      clear HGI Hown7 HB7 HO7 hat7 x7
                      go_wp2_with fail
                      go_roundw
                      case rel => exact ⟨i + 1, _, _, by omega, hcap7, by go_num, HG8⟩
                      case measure => simp [intOf]; omega
                    | false =>
                      skip
                      obtain ⟨css, hcl, hc9, hcw, hcr⟩ := HGI.out.rl
                      have HCW := Lib.hid hcw
                      have HCR := Lib.hid hcr
                      have HCL := Lib.hid hcl
                      have HC9 := Lib.hid hc9
                      clear hcw hcr hcl hc9
                      go_wp2_with (at_builtin; rw [HW2.out, HS2.out]; refine wpList_app1 (W0 := w2) elemRule rfl _ _ rfl _ 63 _ _ _ rfl rfl rfl (by simp [Value.oneCell', nmV]) HCW.out (Below.refl _ _) HGI.out.sz (by omega) (by omega) ?_)
                      clear m0 m1 m2 m3 m4 m5 m6 m7 m8 mf x1
                      intro g7 cap7 w7 Hown7 HB7 HO7 hcap7 hat7
                      have HG8 := Lib.hid (HGI.out.grow HCL.out HC9.out HCR.out HRU.out rfl HO7.out Hown7.out)
                      have x7 : BlkC w7 (w.heap.size + 1) 28 _ := HGI.out.x.only HO7.out (fun hs => by have := (HGI.out.row _ hs).1; omega)
                      have x7f := x7.frozen
                      have x7c := x7.cell 1
                      clear HGI Hown7 HB7 HO7 hat7 x7
                      go_wp2_with fail
                      go_roundw
                      case rel => exact ⟨i + 1, _, _, by omega, hcap7, by go_num, HG8⟩
                      case measure => simp [intOf]; omega
                · obtain ⟨w2, hw2⟩ : ∃ W, w'.setCell ⟨g, 5, none⟩ (.int .i64 2) = W := ⟨_, rfl⟩
                  have hO : Only (fun b => b = g) w' w2 := by
                    rw [← hw2]
                    repeat (refine Only.trans ?_ (only_set _ _ _ _))
                    exact Only.refl _ _
                  have HE := Lib.hid (HR.out.any hO)
                  have HGI := Lib.hid HE.out.1
                  have HRU : Hid (RulAt w2 (gRule pk bal n i) [nmV (ruleTx i), .bool false, .int .i64 0, .int .i64 0, .int .i64 1, .int .i64 2, .slice at' (gTake pk bal n i k).length ct, .slice ag (gGive pk bal n i k).length cg, .slice none 0 0]) := Lib.hid (by
                    rw [gRule_mid HH.out h3 hb, ← HKK.out]
                    exact ⟨_, _, _, rfl, HE.out.2.1, HE.out.2.2, SliceOf.nil _ _ (by omega)⟩)
                  have HW2 := Lib.hid hw2
                  have HS2 : Hid (w'.heap.size = w2.heap.size) := Lib.hid (by rw [← hw2]; simp)
                  clear hO HR HE hw2
                  have h0B : ((how : Int) == 0) = false := by simp; intro h; exact hb (.inr (by omega))
                  obtain rfl : bal = false := by cases bal <;> simp_all
                  clear hb
                  skip
                  obtain ⟨css, hcl, hc9, hcw, hcr⟩ := HGI.out.rl
                  have HCW := Lib.hid hcw
                  have HCR := Lib.hid hcr
                  have HCL := Lib.hid hcl
                  have HC9 := Lib.hid hc9
                  clear hcw hcr hcl hc9
                  go_wp2_with (at_builtin; rw [HW2.out, HS2.out]; refine wpList_app1 (W0 := w2) elemRule rfl _ _ rfl _ 63 _ _ _ rfl rfl rfl (by simp [Value.oneCell', nmV]) HCW.out (Below.refl _ _) HGI.out.sz (by omega) (by omega) ?_)
                  clear m0 m1 m2 m3 m4 m5 m6 m7 m8 mf x1
                  intro g7 cap7 w7 Hown7 HB7 HO7 hcap7 hat7
                  have HG8 := Lib.hid (HGI.out.grow HCL.out HC9.out HCR.out HRU.out rfl HO7.out Hown7.out)
                  have x7 : BlkC w7 (w.heap.size + 1) 28 _ := HGI.out.x.only HO7.out (fun hs => by have := (HGI.out.row _ hs).1; omega)
                  have x7f := x7.frozen
                  have x7c := x7.cell 1
                  clear HGI Hown7 HB7 HO7 hat7 x7
                  go_wp2_with fail
                  go_roundw
                  case rel => exact ⟨i + 1, _, _, by omega, hcap7, by go_num, HG8⟩
                  case measure => simp [intOf]; omega
              · have h3B : decide ((how : Int) < 3) = false := by simp; omega
                by_cases h9 : how = 9
                · have h9B : ((how : Int) == 9) = true := by simp; omega
                  have HH9 : Hid (pk (11 + 5 * i) 10 = 9) := Lib.hid (by rw [HH.out, h9])
                  clear h9
                  replace m0 : w'.cell? ⟨g, 0, none⟩ = some (.string ⟨(ruleTx i).toArray⟩) := m0
                  obtain ⟨w2, hw2⟩ : ∃ W, ((((((((w'.setCell ⟨g, 0, none⟩ (.string ⟨(ruleTx i).toArray⟩)).setCell ⟨g, 1, none⟩ (.bool true)).setCell ⟨g, 2, none⟩ (.int .i64 0)).setCell ⟨g, 3, none⟩ (.int .i64 0)).setCell ⟨g, 4, none⟩ (.int .i64 1)).setCell ⟨g, 5, none⟩ (.int .i64 1)).setCell ⟨g, 6, none⟩ (.slice none 0 0)).setCell ⟨g, 7, none⟩ (.slice ag (gGive pk bal n i k).length cg)).setCell ⟨g, 8, none⟩ (.slice none 0 0) = W := ⟨_, rfl⟩
                  have hO : Only (fun b => b = g) w' w2 := by
                    rw [← hw2]
                    repeat (refine Only.trans ?_ (only_set _ _ _ _))
                    exact Only.refl _ _
                  have HE := Lib.hid (HR.out.any hO)
                  have HGI := Lib.hid HE.out.1
                  have HRU : Hid (RulAt w2 (gRule pk bal n i) [nmV (ruleTx i), .bool true, .int .i64 0, .int .i64 0, .int .i64 1, .int .i64 1, .slice none 0 0, .slice ag (gGive pk bal n i k).length cg, .slice none 0 0]) := Lib.hid (by
                    rw [gRule_9 HH9.out, ← HKK.out]
                    exact ⟨_, _, _, rfl, SliceOf.nil _ _ (by omega), HE.out.2.2, SliceOf.nil _ _ (by omega)⟩)
                  have HW2 := Lib.hid hw2
                  have HS2 : Hid (w'.heap.size = w2.heap.size) := Lib.hid (by rw [← hw2]; simp)
                  clear hO HR HE hw2
                  skip
                  obtain ⟨css, hcl, hc9, hcw, hcr⟩ := HGI.out.rl
                  have HCW := Lib.hid hcw
                  have HCR := Lib.hid hcr
                  have HCL := Lib.hid hcl
                  have HC9 := Lib.hid hc9
                  clear hcw hcr hcl hc9
                  go_wp2_with (at_builtin; rw [HW2.out, HS2.out]; refine wpList_app1 (W0 := w2) elemRule rfl _ _ rfl _ 63 _ _ _ rfl rfl rfl (by simp [Value.oneCell', nmV]) HCW.out (Below.refl _ _) HGI.out.sz (by omega) (by omega) ?_)
                  clear m0 m1 m2 m3 m4 m5 m6 m7 m8 mf x1
                  intro g7 cap7 w7 Hown7 HB7 HO7 hcap7 hat7
                  have HG8 := Lib.hid (HGI.out.grow HCL.out HC9.out HCR.out HRU.out rfl HO7.out Hown7.out)
                  have x7 : BlkC w7 (w.heap.size + 1) 28 _ := HGI.out.x.only HO7.out (fun hs => by have := (HGI.out.row _ hs).1; omega)
                  have x7f := x7.frozen
                  have x7c := x7.cell 1
                  clear HGI Hown7 HB7 HO7 hat7 x7
                  go_wp2_with fail
                  go_roundw
                  case rel => exact ⟨i + 1, _, _, by omega, hcap7, by go_num, HG8⟩
                  case measure => simp [intOf]; omega
                · have h9B : ((how : Int) == 9) = false := by simp; omega
                  have HRU : Hid (RulAt w' (gRule pk bal n i) [nmV (ruleTx i), .bool false, .int .i64 0, .int .i64 0, .int .i64 1, .int .i64 1, .slice at' (gTake pk bal n i k).length ct, .slice ag (gGive pk bal n i k).length cg, .slice none 0 0]) := Lib.hid (by
                    rw [gRule_hi HH.out h3 h9, ← HKK.out]
                    exact ⟨_, _, _, rfl, HR.out.t, HR.out.g_, SliceOf.nil _ _ (by omega)⟩)
                  have HGI := Lib.hid HR.out.gi
                  clear HR
                  obtain ⟨css, hcl, hc9, hcw, hcr⟩ := HGI.out.rl
                  have HCW := Lib.hid hcw
                  have HCR := Lib.hid hcr
                  have HCL := Lib.hid hcl
                  have HC9 := Lib.hid hc9
                  clear hcw hcr hcl hc9
                  go_wp2_with (at_builtin; skip; refine wpList_app1 (W0 := w') elemRule rfl _ _ rfl _ 63 _ _ _ rfl rfl rfl (by simp [Value.oneCell', nmV]) HCW.out (Below.refl _ _) HGI.out.sz (by omega) (by omega) ?_)
                  clear m0 m1 m2 m3 m4 m5 m6 m7 m8 mf x1
                  intro g7 cap7 w7 Hown7 HB7 HO7 hcap7 hat7
                  have HG8 := Lib.hid (HGI.out.grow HCL.out HC9.out HCR.out HRU.out rfl HO7.out Hown7.out)
                  have x7 : BlkC w7 (w.heap.size + 1) 28 _ := HGI.out.x.only HO7.out (fun hs => by have := (HGI.out.row _ hs).1; omega)
                  have x7f := x7.frozen
                  have x7c := x7.cell 1
                  clear HGI Hown7 HB7 HO7 hat7 x7
                  go_wp2_with fail
                  go_roundw
                  case rel => exact ⟨i + 1, _, _, by omega, hcap7, by go_num, HG8⟩
                  case measure => simp [intOf]; omega
        · have hltB : decide ((i : Int) < ((pk 7 7 : Nat) : Int)) = false := by simp; omega
          obtain rfl : pk 7 7 = i := by omega
          have x0 := HG.out.x.cell 0
          have x1 := HG.out.x.cell 1
          have x2 := HG.out.x.cell 2
          have x3 := HG.out.x.cell 3
          have y0 := HG.out.y.cell 0
          have y1 := HG.out.y.cell 1
          have y2 := HG.out.y.cell 2
          have y3 := HG.out.y.cell 3
          have yf := HG.out.y.frozen
          go_wp2_with fail
          obtain ⟨w9, hw9⟩ : ∃ W, (((w'.setCell ⟨w.heap.size, 0, none⟩ (.slice gi n ci)).setCell ⟨w.heap.size, 1, none⟩ (.slice ar (pk 7 7) cr)).setCell ⟨w.heap.size, 2, none⟩ (.slice none 0 0)).setCell ⟨w.heap.size, 3, none⟩ (.slice none 0 0) = W := ⟨_, rfl⟩
          have hO : Only (fun b => b = w.heap.size) w' w9 := by rw [← hw9]; exact (((only_set _ _ _ _).trans (only_set _ _ _ _)).trans (only_set _ _ _ _)).trans (only_set _ _ _ _)
          have hy9 : BlkC w9 w.heap.size 28 [.slice gi n ci, .slice ar (pk 7 7) cr, .slice none 0 0, .slice none 0 0] := by rw [← hw9]; exact (((HG.out.y.set 0 _).set 1 _).set 2 _).set 3 _
          rw [hw9]
          clear hw9 x0 x1 x2 x3 y0 y1 y2 y3 yf
          have z0 : w9.cell? ⟨w.heap.size, 0, none⟩ = some (.slice gi n ci) := hy9.cell 0
          have z1 : w9.cell? ⟨w.heap.size, 1, none⟩ = some (.slice ar (pk 7 7) cr) := hy9.cell 1
          have z2 : w9.cell? ⟨w.heap.size, 2, none⟩ = some (.slice none 0 0) := hy9.cell 2
          have z3 : w9.cell? ⟨w.heap.size, 3, none⟩ = some (.slice none 0 0) := hy9.cell 3
          exact bodyPost_ret (v := catV (.slice gi n ci) (.slice ar (pk 7 7) cr)) (by simp [results, Tryz.results7, go_sem, catV, z0, z1, z2, z3]) rfl ⟨⟨_, _, rfl, HG.out.cat HN.out rfl hO⟩, hO.below HG.out.b HG.out.b.size (fun k hk => by omega)⟩
end Go.Proofs.YtfpcgjgkbniofaaGreatDoor
