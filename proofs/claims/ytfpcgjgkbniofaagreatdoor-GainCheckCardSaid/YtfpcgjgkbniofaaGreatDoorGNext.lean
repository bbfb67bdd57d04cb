/- ref11.next: the sequence that follows. -/
import Derived.Test.YtfpcgjgkbniofaaGreatDoorGRef
set_option linter.unusedVariables false
set_option linter.unusedSimpArgs false
namespace Go.Proofs.YtfpcgjgkbniofaaGreatDoor
open Go.RowKit
attribute [local go_sem] Oper.semAt_some

theorem nextL_app (n x r : Nat) (hn : 1 ≤ n) (h : x + 1 ≠ n) : ∀ p : List Nat, nextL n (p ++ x :: List.replicate r (n - 1)) = some (p ++ List.replicate (r + 1) (x + 1))
  | [] => by
    rw [List.nil_append, nextL]
    have h1 : nextL n (List.replicate r (n - 1)) = none := nextL_rep n (n - 1) (by omega) r
    rw [h1]
    simp [h]
  | y :: p => by rw [List.cons_append, nextL, nextL_app n x r hn h p]; rfl

def NextIs (w : World) (u : Value) (b : Bool) : Option (List Nat) → Prop
  | none => b = false ∧ u = .slice none 0 0
  | some l' => b = true ∧ NatsOf w u l'
theorem own_form {w : World} {base e n : Nat} {v : Value} {xs : List Value} (h : w.ownsRow base e 1 v n xs) : ∃ a cap, v = .slice a n cap ∧ n ≤ cap ∧ cap ≤ 9223372036854775807 := by
  rcases h.2 with ⟨hv, hx⟩ | ⟨g, cap, cur, hv, _, _, h1, h2, _⟩
  · obtain rfl : n = 0 := by have := h.1; simp [hx] at this; omega
    exact ⟨none, 0, hv, by omega, by omega⟩
  · exact ⟨_, cap, hv, h1, by unfold maxLen at h2; omega⟩

set_option maxRecDepth 100000 in
set_option maxHeartbeats 4000000 in
theorem rnext_any (v : Value) (l : List Nat) (n : Nat) (w : World) (h : NatsOf w v l) (hn : 1 ≤ n) (hn2 : n ≤ 1000) (hl : l.length ≤ 1000) (h0 : 0 < l.length) (hlt : ∀ x ∈ l, x < n) :
    Calls Tryz.prog 46 #[v, .int .i64 (n : Int)] w fun e w' => (∃ u b, e = .returned (.tuple #[u, .bool b]) ∧ NextIs w' u b (nextL n l)) ∧ Below w.heap.size w w' := by
  obtain ⟨b0, cap, hv, hb0, _⟩ := NatsOf.at_ h 0 h0
  subst hv
  have HL := Lib.hid h
  have HLT := Lib.hid hlt
  have hcap : l.length ≤ cap ∧ cap ≤ 9223372036854775807 := by
    obtain ⟨a', c', hv, h1, h2⟩ := h.form
    injection hv with _ _ e3
    omega
  clear h hlt
  have q0 : IntKind.i64.wrap ((l.length : Int) - 1) = (l.length : Int) - 1 := IntWalk.i64_in _ (by omega)
  have q1 : IntKind.i64.wrap ((n : Int) - 1) = (n : Int) - 1 := IntWalk.i64_in _ (by omega)
  go_enter Tryz.func46, Tryz.ntmps46
  go_wp2_with fail
  go_loopw [6] (fun i wr => ∃ m : Nat, m ≤ l.length ∧ i = .int .i64 ((m : Int) - 1) ∧ Hid (wr = w) ∧ Hid (l.drop m = List.replicate (l.length - m) (n - 1))) (fun i _ => (intOf i + 1).toNat)
  case atStart => exact ⟨l.length, by omega, rfl, Lib.hid rfl, Lib.hid (by simp)⟩
  case round =>
    obtain ⟨m, hm, rfl, HW, HD⟩ := hrel
    obtain rfl := HW.out
    clear HW
    rcases Nat.eq_zero_or_pos m with hm0 | hm0
    · subst hm0
      have HN : Hid (nextL n l = none) := Lib.hid (by
        have h9 := HD.out
        rw [List.drop_zero] at h9
        rw [h9]
        exact nextL_rep n (n - 1) (by omega) _)
      go_wp2_with fail
      go_ret2
      exact ⟨⟨_, _, rfl, by rw [HN.out]; exact ⟨rfl, rfl⟩⟩, Below.refl _ _⟩
    · obtain ⟨m, rfl⟩ : ∃ j, m = j + 1 := ⟨m - 1, by omega⟩
      have e1 : (((m + 1 : Nat) : Int) - 1) = (m : Int) := by omega
      rw [e1]
      obtain ⟨b1, cap1, hv1, hb1, n0⟩ := NatsOf.at_ HL.out m (by omega)
      injection hv1 with e2 e3 e4
      injection e2 with e2
      injection e2 with e2
      subst e2
      clear e3 e4 e1
      have HX := Lib.hid (HLT.out l[m] (List.getElem_mem _))
      have HDR : Hid (l.drop m = l[m] :: l.drop (m + 1)) := Lib.hid (List.drop_eq_getElem_cons (by omega))
      generalize l[m] = x at *
      have i1 : (m : Int) < (l.length : Int) := by omega
      have q2 : IntKind.i64.wrap ((m : Int) - 1) = (m : Int) - 1 := IntWalk.i64_in _ (by omega)
      have hxn := HX.out
      by_cases hx : x + 1 = n
      · have q3 : ((x : Int) == (n : Int) - 1) = true := by simp; omega
        go_wp2_with fail
        go_roundw
        case rel => exact ⟨m, by omega, by go_num, Lib.hid (by first | trivial | rfl), Lib.hid (by rw [HDR.out, HD.out, show l.length - m = (l.length - (m + 1)) + 1 by omega, List.replicate_succ, show x = n - 1 by omega])⟩
        case measure => first | (simp [intOf]; done) | (simp [intOf]; omega)
      · have q3 : ((x : Int) == (n : Int) - 1) = false := by simp; omega
        have q4 : decide ((m : Int) < 0) = false := decide_eq_false (by omega)
        have HN : Hid (nextL n l = some (l.take m ++ List.replicate (l.length - m) (x + 1))) := Lib.hid (by
          have h9 := nextL_app n x (l.length - (m + 1)) hn hx (l.take m)
          rw [← HD.out, ← HDR.out, List.take_append_drop, show l.length - (m + 1) + 1 = l.length - m by omega] at h9
          exact h9)
        have HCB : Hid (∀ j u, ((l.take m).map natV)[j]? = some u → wr.cell? ((⟨b0, 0, none⟩ : Addr).add j) = some u) := Lib.hid (by
          intro j u hu
          have hj : j < m := by
            rcases Nat.lt_or_ge j m with h1 | h1
            · exact h1
            · rw [List.getElem?_eq_none (by simp; omega)] at hu; cases hu
          obtain ⟨b', cap', hv', _, hc⟩ := NatsOf.at_ HL.out j (by omega)
          injection hv' with e1 e2 e3
          injection e1 with e1
          injection e1 with e1
          subst e1
          have hadd : (⟨b0, 0, none⟩ : Addr).add j = ⟨b0, j, none⟩ := by unfold Addr.add; split <;> simp_all
          rw [List.getElem?_map, List.getElem?_take, if_pos hj, List.getElem?_eq_getElem (by omega)] at hu
          rw [hadd, hc]
          exact hu)
        have hml : m ≤ cap := by omega
        have hmi : (m : Int) ≤ (cap : Int) := by omega
        go_wp2_with (at_builtin; refine wpList_appN (W0 := wr) (B := wr.heap.size) elemInt rfl _ _ rfl (.slice none 0 0) 0 [] rfl ⟨b0, 0, none⟩ m cap ((l.take m).map natV) rfl (by simp; omega) HCB.out (fun u hu => by obtain ⟨x, _, rfl⟩ := List.mem_map.1 hu; rfl) (World.ownsRow_nil _ _ _ _) (Below.refl _ _) (Nat.le_refl _) (by omega) (by omega) ?_)
        intro v5 w5 Hown HB5 HO5
        obtain ⟨ga, gc, rfl, hgc1, hgc2⟩ := own_form Hown.out
        try simp only [Nat.zero_add] at hgc1
        try simp only [Nat.zero_add]
        have HO0 : Hid (w5.ownsRow wr.heap.size 3 1 (.slice ga m gc) m ((l.take m ++ List.replicate 0 (x + 1)).map natV)) := Lib.hid (by simpa using Hown.out)
        clear HCB Hown HO5
        go_wp2_with fail
        obtain ⟨wb, rfl⟩ : ∃ wo : World, wo = wr := ⟨_, rfl⟩
        go_loopw [7] (fun o w2 => ∃ (q : Nat) (gb : Option Addr) (gd : Nat), m + q ≤ l.length ∧ o = .slice gb (m + q) gd ∧ gd ≤ 9223372036854775807 ∧ m + q ≤ gd ∧ Hid (w2.ownsRow wb.heap.size 3 1 (.slice gb (m + q) gd) (m + q) ((l.take m ++ List.replicate q (x + 1)).map natV)) ∧ Hid (Below wb.heap.size wb w2)) (fun o _ => l.length - (match o with | .slice _ k _ => k | _ => 0))
        case atStart => exact ⟨0, ga, gc, by omega, rfl, hgc2, by omega, HO0, HB5⟩
        case round =>
          clear HO0 HB5
          obtain ⟨q, gb, gd, hq, rfl, hgd, hqg, HO, HB⟩ := hrel
          have hb0r : b0 < wr.heap.size := Nat.lt_of_lt_of_le hb0 HB.out.size
          have n1 := (HB.out.cell (p := ⟨b0, m, none⟩) hb1).trans n0
          by_cases hlt : m + q < l.length
          · have q5 : IntKind.i64.wrap ((x : Int) + 1) = ((x + 1 : Nat) : Int) := by rw [IntWalk.i64_in _ (by omega)]; omega
            obtain ⟨mq, hmq⟩ : ∃ mq, m + q = mq := ⟨_, rfl⟩
            have HMQ := Lib.hid hmq
            rw [hmq] at HO hq hqg hlt ⊢
            have q6 : decide ((mq : Int) < (l.length : Int)) = true := decide_eq_true (by omega)
            clear hmq
            go_wp2_with (at_builtin; refine wpList_app1 (W0 := wb) elemInt rfl _ _ rfl [.int .i64 ((x + 1 : Nat) : Int)] 3 _ _ _ rfl rfl rfl (by simp [Value.oneCell']) HO.out HB.out HB.out.size (by omega) (by omega) ?_)
            intro g6 cap6 w6 Hown6 HB6 HO6 hcap6 hat6
            have Hown7 : Hid (w6.ownsRow wb.heap.size 3 1 (.slice (some ⟨g6, 0, none⟩) (m + (q + 1)) cap6) (m + (q + 1)) ((l.take m ++ List.replicate (q + 1) (x + 1)).map natV)) := Lib.hid (by
              have h9 := Hown6.out
              rw [show m + (q + 1) = mq + 1 by have := HMQ.out; omega, List.replicate_succ', ← List.append_assoc, List.map_append]
              simpa [natV] using h9)
            have hcl : m + (q + 1) ≤ cap6 := by
              rcases Hown7.out.2 with ⟨hv, _⟩ | ⟨_, _, _, hv, _, _, h4, h3, _⟩
              · cases hv
              · injection hv with _ _ e; omega
            clear Hown6 HO6 hat6 HO
            go_wp2_with fail
            go_roundw
            case rel => exact ⟨q + 1, some ⟨g6, 0, none⟩, cap6, by have := HMQ.out; omega, by have := HMQ.out; rw [show m + (q + 1) = mq + 1 by omega], hcap6, hcl, Hown7, HB6⟩
            case measure => simp; omega
          · have hql : m + q = l.length := by omega
            have HF : Hid (NatsOf wr (.slice gb l.length gd) (l.take m ++ List.replicate (l.length - m) (x + 1))) := Lib.hid (nats_of_own (by
              have h9 := HO.out
              rw [show l.length - m = q by omega, show (l.take m ++ List.replicate q (x + 1)).length = m + q by simp; omega, ← hql]
              exact h9))
            rw [hql]
            have q6 : decide ((l.length : Int) < (l.length : Int)) = false := decide_eq_false (by omega)
            clear HO
            go_wp2_with fail
            go_ret2
            exact ⟨⟨_, _, rfl, by rw [HN.out]; exact ⟨rfl, HF.out⟩⟩, HB.out⟩
end Go.Proofs.YtfpcgjgkbniofaaGreatDoor
