/-
  The law DiffLess: its walk.
-/
import Derived.Test.YtgkdiknmjgpgmaaPlK
import Derived.IntWalk
namespace Go.Proofs.Ytgkdiknmjgpgmaa
set_option linter.unusedSimpArgs false
set_option linter.unusedVariables false
open Go.RowKit Go.Sort

set_option maxRecDepth 100000 in
set_option maxHeartbeats 4000000 in
theorem diffLess_walk (w : World) (u v : Value) (l m : List UpdI) (ha : Sl w 8 u (l.map UpdI.cells)) (hb : Sl w 8 v (m.map UpdI.cells)) (hka : ∀ x ∈ l, okV x.item) (hkb : ∀ x ∈ m, okV x.item) : Calls Try.prog 8 #[u, v] w (Ret (.bool true) w) := by
  have HF1 := hid (few40_e w u l ha hka)
  have HF2 := fun W (hW : Ext w W) => hid (few40_e W v m (hb.ext hW) hkb)
  obtain ⟨A0, c0, rfl, _⟩ := sl_get ha
  obtain ⟨A20, c20, rfl, _⟩ := sl_get hb
  clear ha hb hka hkb
  go_enter Try.func8, Try.ntmps8
  go_wp2_with (first
    | (go_at_call 23; refine (HF2 _ HX1.out).out.mono ?_; rintro e w2 ⟨v2, rfl, ⟨b, hM, hM2⟩, hx2⟩; have HX2 := hid (HX1.out.trans hx2); have HSB := hid hM.1; have HSA := hid (HA1.out.ext hx2); have hbl := hM2.2.1; have HLB := hid hM2.1; obtain ⟨A', c', rfl, k1, k2, k3⟩ := sl_get hM.1; clear hx2 hM hM2 HF2 HA1)
    | (go_at_call 23; refine (HF1.out).mono ?_; rintro e w1 ⟨v1, rfl, ⟨a, hL, hL2⟩, hx1⟩; have HX1 := hid hx1; have HA1 := hid hL.1; have hal := hL2.2.1; have HLA := hid hL2.1; obtain ⟨A, c, rfl, _⟩ := sl_get hL.1; clear hx1 hL hL2 HF1))
  obtain ⟨A9, c9, hA9, h1, h2, h3⟩ := sl_get HSA.out
  injection hA9 with hA9 _ hc9
  subst hA9
  subst hc9
  unfold maxLen at h2 k2
  go_loopw [7, 8] (fun v i wr => ∃ (k : Nat) (ov : Value), k ≤ a.length ∧ i = .int .i64 k ∧ ov = v ∧ Ext w2 wr ∧ RowAt Ver.cells 2 (setL Ver.lt ((a.take k).map (·.item))) ov wr) (fun _ i _ => a.length - (intOf i).toNat)
  case atStart => exact ⟨0, _, by omega, rfl, rfl, Ext.refl _, RowAt.nil _⟩
  case round =>
    obtain ⟨k, v, hk, rfl, rfl, hE, hR⟩ := hrel
    have HE := hid hE
    by_cases hlt : k < a.length
    · obtain ⟨b', o, rfl, lb, hcell⟩ := h3 (by omega)
      have c2 := hE.cell (hcell k hlt 2 _ rfl)
      have c3 := hE.cell (hcell k hlt 3 _ rfl)
      have lbr := Nat.lt_of_lt_of_le lb hE.size
      have hT : setL Ver.lt ((a.take (k + 1)).map (·.item)) = insL Ver.lt a[k].item (setL Ver.lt ((a.take k).map (·.item))) := by rw [List.take_succ_eq_append_getElem hlt, List.map_append]; exact setL_snoc _ _
      have hle := setL_length Ver.strict ((a.take k).map (·.item))
      rw [List.length_map, List.length_take] at hle
      have HP := hid (rput_c wr v _ a[k].item hR (by omega))
      rw [← hT] at HP
      clear hE hcell h3 hR hT hle
      generalize a[k] = z at c2 c3 HP
      unfold Ver.val at HP
      go_wp2_with (go_at_call 31; refine (HP.out).mono ?_; rintro e w3 ⟨v3, rfl, hv3, hx3⟩; have HV3 := hid hv3; have HX3 := hid hx3; clear hv3 hx3)
      go_roundw
      case rel => exact ⟨k + 1, _, by omega, by go_num, rfl, HE.out.trans HX3.out, HV3.out⟩
      case measure => simp [intOf]; omega
    · obtain rfl : k = a.length := by omega
      rw [List.take_length] at hR
      have HR := hid hR
      clear hE h3 hR
      go_wp2_with fail
      go_loopw [7, 9] (fun v i WI => ∃ (k : Nat) (ov : Value), k ≤ b.length ∧ i = .int .i64 k ∧ ov = v ∧ Ext w2 WI ∧ RowAt Ver.cells 2 (setL Ver.lt ((a ++ b.take k).map (·.item))) ov WI) (fun _ i _ => b.length - (intOf i).toNat)
      case atStart => exact ⟨0, _, by omega, rfl, rfl, HE.out, by rw [List.take_zero, List.append_nil]; exact HR.out⟩
      case round =>
        obtain ⟨k, v, hk, rfl, rfl, hE, hR2⟩ := hrel
        clear HR HE
        have HE := hid hE
        by_cases hlt : k < b.length
        · obtain ⟨b', o, rfl, lb, hcell⟩ := k3 (by omega)
          have c2 := hE.cell (hcell k hlt 2 _ rfl)
          have c3 := hE.cell (hcell k hlt 3 _ rfl)
          have lbr := Nat.lt_of_lt_of_le lb hE.size
          have hT : setL Ver.lt ((a ++ b.take (k + 1)).map (·.item)) = insL Ver.lt b[k].item (setL Ver.lt ((a ++ b.take k).map (·.item))) := by rw [List.take_succ_eq_append_getElem hlt, ← List.append_assoc, List.map_append]; exact setL_snoc _ _
          have hle := setL_length Ver.strict ((a ++ b.take k).map (·.item))
          rw [List.length_map, List.length_append, List.length_take] at hle
          have HP := hid (rput_c wr v _ b[k].item hR2 (by omega))
          rw [← hT] at HP
          clear hE hcell k3 hR2 hT hle
          generalize b[k] = z at c2 c3 HP
          unfold Ver.val at HP
          go_wp2_with (go_at_call 31; refine (HP.out).mono ?_; rintro e w3 ⟨v3, rfl, hv3, hx3⟩; have HV3 := hid hv3; have HX3 := hid hx3; clear hv3 hx3)
          go_roundw
          case rel => exact ⟨k + 1, _, by omega, by go_num, rfl, HE.out.trans HX3.out, HV3.out⟩
          case measure => simp [intOf]; omega
        · obtain rfl : k = b.length := by omega
          rw [List.take_length] at hR2
          obtain ⟨its, hits⟩ : ∃ its, its = itemsL (a ++ b) := ⟨_, rfl⟩
          have hR3 : RowAt Ver.cells 2 its v wr := by rw [hits]; exact hR2
          have hle := itemsL_len (a ++ b)
          have htl := turns_len a b
          have hnet := net_turns a b HLA.out.2 HLB.out.2
          rw [← hits] at htl hle
          rw [List.length_append] at hle
          obtain ⟨A2, c2, rfl, p1, p2, p3⟩ := sl_get hR3.1
          unfold maxLen at p2
          have HTu := hid (dTurns_c wr _ _ a b (HSA.out.ext hE) (HSB.out.ext hE) (by omega) (by omega))
          clear hE k3 hR2 hR3 hits p3
          generalize allTurns a b = t at htl hnet HTu
          have HNet := hid hnet
          clear hnet
          go_wp2_with (go_at_call 27; refine (HTu.out).mono ?_; rintro e w6 ⟨v6, rfl, hv6, hx6⟩; have HE6 := hid (HE.out.trans hx6); obtain ⟨A3, c3, rfl, g1, g2, g3⟩ := sl_get hv6.1; clear hx6 hv6 HTu)
          unfold maxLen at g2
          go_loopw [11, 12, 13] (fun x y i WQ => ∃ k : Nat, k ≤ t.length ∧ i = .int .i64 k ∧ x = .int .i64 (addsK (t.take k)) ∧ y = .int .i64 (dropsK (t.take k)) ∧ Ext w6 WQ) (fun _ _ i _ => t.length - (intOf i).toNat)
          case atStart => exact ⟨0, by omega, rfl, rfl, rfl, Ext.refl _⟩
          case round =>
            obtain ⟨k, hk, rfl, rfl, rfl, hE3⟩ := hrel
            have HE3 := hid hE3
            have hb1 := addsK_bd t k
            have hb2 := dropsK_bd t k
            by_cases hlt : k < t.length
            · obtain ⟨b', o, rfl, lb, hcell⟩ := g3 (by omega)
              have q0 := hE3.cell (hcell k hlt 0 _ rfl)
              rw [Nat.add_zero] at q0
              have lbr := Nat.lt_of_lt_of_le lb hE3.size
              have HS1 := hid (addsK_take t k hlt)
              have HS2 := hid (dropsK_take t k hlt)
              clear hE3 hcell g3
              generalize t[k].kind = z at q0 HS1 HS2
              generalize addsK (t.take k) = x at hb1 HS1
              generalize dropsK (t.take k) = y at hb2 HS2
              have e1 : IntKind.i64.wrap (x + 1) = x + 1 := IntWalk.i64_in _ (by omega)
              have e2 : IntKind.i64.wrap (y + 1) = y + 1 := IntWalk.i64_in _ (by omega)
              by_cases h1 : z = 1
              · have d1 : (z == 1) = true := by simp [h1]
                have d2 : (z == 2) = false := by simp [h1]
                rw [if_pos h1] at HS1
                rw [if_neg (by omega)] at HS2
                clear h1
                go_wp2_with fail
                go_roundw
                case rel => exact ⟨k + 1, by omega, by go_num, by rw [HS1.out], by rw [HS2.out, Int.add_zero], HE3.out⟩
                case measure => simp [intOf]; omega
              · have d1 : (z == 1) = false := by simp [h1]
                rw [if_neg h1] at HS1
                by_cases h2 : z = 2
                · have d2 : (z == 2) = true := by simp [h2]
                  rw [if_pos h2] at HS2
                  clear h1 h2
                  go_wp2_with fail
                  go_roundw
                  case rel => exact ⟨k + 1, by omega, by go_num, by rw [HS1.out, Int.add_zero], by rw [HS2.out], HE3.out⟩
                  case measure => simp [intOf]; omega
                · have d2 : (z == 2) = false := by simp [h2]
                  rw [if_neg h2] at HS2
                  clear h1 h2
                  go_wp2_with fail
                  go_roundw
                  case rel => exact ⟨k + 1, by omega, by go_num, by rw [HS1.out, Int.add_zero], by rw [HS2.out, Int.add_zero], HE3.out⟩
                  case measure => simp [intOf]; omega
            · obtain rfl : k = t.length := by omega
              rw [List.take_length] at hb1 hb2
              have hnet := HNet.out
              generalize hxx : addsK t = x at hb1 hnet
              generalize hyy : dropsK t = y at hb2 hnet
              have e1 : IntKind.i64.wrap (2 * (its.length : Int)) = 2 * (its.length : Int) := IntWalk.i64_in _ (by omega)
              have e2 : IntKind.i64.wrap ((b.length : Int) - a.length) = (b.length : Int) - a.length := IntWalk.i64_in _ (by omega)
              have e3 : IntKind.i64.wrap (x - y) = (b.length : Int) - a.length := by rw [hnet]; exact IntWalk.i64_in _ (by omega)
              have d1 : decide ((t.length : Int) ≤ 2 * (its.length : Int)) = true := by simp; omega
              rw [List.take_length, hxx, hyy]
              clear hE3 g3 hnet HNet hxx hyy
              go_wp2_with (go_at_call 24; refine (awake40_c _).mono ?_; rintro e w7 ⟨rfl, hx7⟩; have HX7 := hid hx7; clear hx7)
              go_ret
              exact ⟨by simp, HX2.out.trans (HE6.out.trans (HE3.out.trans HX7.out))⟩
end Go.Proofs.Ytgkdiknmjgpgmaa
