/-
  The law FilterChecks: its walk.
-/
import Derived.Test.YtgkdiknmjgpgmaaDoorFpF
import Derived.Test.YtgkdiknmjgpgmaaDoorFpG
namespace Go.Proofs.YtgkdiknmjgpgmaaDoor
set_option linter.unusedSimpArgs false
set_option linter.unusedVariables false
open Go.RowKit Go.Sort

theorem mayK_path {c : ClauseI} (h1 : c.pre.toList.isEmpty = false) (h2 : Pa.rightK c.pre = false) : mayK c = 13 := by
  unfold mayK; rw [if_pos ⟨h1, h2⟩]
theorem mayK_arg {c : ClauseI} (h1 : c.pre.toList.isEmpty = true ∨ Pa.rightK c.pre = true) : mayK c = if rightC c = true then 0 else 2 := by
  unfold mayK
  rw [if_neg (by rintro ⟨a, b⟩; rcases h1 with h | h <;> simp_all)]
  unfold rightC
  have e : (c.pre.toList.isEmpty || Pa.rightK c.pre) = true := by rcases h1 with h | h <;> simp [h]
  rw [e, Bool.true_and]
  by_cases h : c.lo < 0 ∨ c.hi < c.lo ∨ 200 < c.hi
  · rw [if_pos h, if_neg (by simp; omega)]
  · rw [if_neg h, if_pos (by simp; omega)]
/-- want, midway. -/
def Want (f : List ClauseI) (k : Nat) (z : Int) : Prop := if z = 0 then firstK f = firstK (f.drop k) else firstK f = z
theorem want_next {f : List ClauseI} {k : Nat} (h : k < f.length) (hw : Want f k 0) {z : Int} (hz : mayK f[k] = z) : Want f (k + 1) z := by
  unfold Want at *
  rw [if_pos rfl, firstK_drop f k h, hz] at hw
  by_cases h0 : z = 0
  · rw [if_pos h0] at *; exact hw
  · rw [if_neg h0] at *; exact hw
set_option maxRecDepth 100000 in
set_option maxHeartbeats 4000000 in
theorem filterChecks_walk (w : World) (m : Int) (hm : w.cell? ⟨0, 0, none⟩ = some (.int .i64 m)) (vf : Value) (f : List ClauseI) (hf : Sl w 3 vf (f.map ClauseI.cells)) : Calls Tryd.prog 7 #[vf] w (Ret (.bool true) w) := by
  have HA := fun W (hW : Ext w W) => hid (awake09_c W m (hW.cell hm))
  have L1 := fun W (hW : Ext w W) => hid (lightF_c W vf f (hf.ext hW))
  have HC := fun (h1 : LightF f) W (hW : Ext w W) => hid (fcheck_c W vf f m (hW.cell hm) (hf.ext hW) h1)
  obtain ⟨A, c, rfl, h1, h2, h3⟩ := sl_get hf
  unfold maxLen at h2
  clear hf
  cases l1 : lightF f with
  | false =>
    rw [l1] at L1
    clear l1 HC h3 hm
    go_enter Tryd.func7, Tryd.ntmps7
    go_wp2_with fail
    refine ((L1 _ (Ext.refl _)).out).mono ?_
    rintro e w1 ⟨rfl, x1⟩
    have HE1 := hid x1
    clear x1
    go_wp2_with fail
    refine ((HA _ HE1.out).out).mono ?_
    rintro e w2 ⟨rfl, x2⟩
    have HE2 := hid (HE1.out.trans x2)
    clear x2
    go_wp2_with fail
    go_ret
    exact ⟨rfl, HE2.out⟩
  | true =>
    rw [l1] at L1
    have hlf := (lightF_iff.1 l1).1
    have hll := (lightF_iff.1 l1).2
    have HC := HC hlf
    have HLf := hid hlf
    clear l1 hlf hm
    go_enter Tryd.func7, Tryd.ntmps7
    go_wp2_with fail
    refine ((L1 _ (Ext.refl _)).out).mono ?_
    rintro e w1 ⟨rfl, x1⟩
    have HE1 := hid x1
    clear x1 L1
    go_wp2_with fail
    go_loopw [3, 4] (fun vz i wr => ∃ (k : Nat) (z : Int), k ≤ f.length ∧ i = .int .i64 k ∧ vz = .int .i64 z ∧ Ext w wr ∧ Want f k z) (fun _ i _ => f.length - (intOf i).toNat)
    case atStart => exact ⟨0, 0, by omega, rfl, rfl, HE1.out, (by unfold Want; rw [if_pos rfl]; rfl)⟩
    case round =>
      obtain ⟨k, z, hk, rfl, rfl, hE, hw⟩ := hrel
      have HE := hid hE
      by_cases hlt : k < f.length
      · by_cases hz : z = 0
        · subst hz
          obtain ⟨b, o, rfl, lb, hcell⟩ := h3 (by omega)
          have c0 := hE.cell (hcell k hlt 0 _ rfl)
          have c1 := hE.cell (hcell k hlt 1 _ rfl)
          have c2 := hE.cell (hcell k hlt 2 _ rfl)
          rw [Nat.add_zero] at c0
          have lbr := Nat.lt_of_lt_of_le lb hE.size
          have hsz := HLf.out _ (List.getElem_mem hlt)
          have HNx := fun z hz => hid (want_next hlt hw (z := z) hz)
          clear hcell h3 hE hw HA HC HLf
          generalize f[k] = x at c0 c1 c2 HNx hsz
          have H7 := fun W => hid (Pa.right_c x.pre W (by omega))
          have H9 := fun W => hid (rrightC_c W x (by omega))
          unfold ClauseI.val at H9
          cases he : x.pre.toList.isEmpty with
          | true =>
            have hm9 := mayK_arg (c := x) (.inl he)
            clear H7
            cases hr : rightC x with
            | true =>
              rw [hr] at H9
              rw [hr, if_pos rfl] at hm9
              have HW := HNx _ hm9
              clear hm9 HNx hr
              go_wp2_with (go_at_call 31; refine ((H9 _).out).mono ?_; rintro e w3 ⟨rfl, hx⟩; have HX := hid (HE.out.trans hx); clear hx)
              go_roundw
              case rel => exact ⟨k + 1, 0, by omega, by go_num, rfl, HX.out, HW.out⟩
              case measure => simp [intOf]; omega
            | false =>
              rw [hr] at H9
              rw [hr, if_neg Bool.false_ne_true] at hm9
              have HW := HNx _ hm9
              clear hm9 HNx hr
              go_wp2_with (go_at_call 31; refine ((H9 _).out).mono ?_; rintro e w3 ⟨rfl, hx⟩; have HX := hid (HE.out.trans hx); clear hx)
              go_roundw
              case rel => exact ⟨k + 1, 2, by omega, by go_num, rfl, HX.out, HW.out⟩
              case measure => simp [intOf]; omega
          | false =>
            cases hr7 : Pa.rightK x.pre with
            | false =>
              have HW := HNx _ (mayK_path he hr7)
              rw [hr7] at H7
              clear HNx hr7 H9
              go_wp2_with (go_at_call 30; refine ((H7 _).out).mono ?_; rintro e w3 ⟨rfl, hx⟩; have HX := hid (HE.out.trans hx); clear hx)
              go_roundw
              case rel => exact ⟨k + 1, 13, by omega, by go_num, rfl, HX.out, HW.out⟩
              case measure => simp [intOf]; omega
            | true =>
              have hm9 := mayK_arg (c := x) (.inr hr7)
              rw [hr7] at H7
              clear hr7
              cases hr : rightC x with
              | true =>
                rw [hr] at H9
                rw [hr, if_pos rfl] at hm9
                have HW := HNx _ hm9
                clear hm9 HNx hr
                go_wp2_with (first
                  | (go_at_call 31; refine ((H9 _).out).mono ?_; rintro e w4 ⟨rfl, hx⟩; have HX4 := hid (HX.out.trans hx); clear hx)
                  | (go_at_call 30; refine ((H7 _).out).mono ?_; rintro e w3 ⟨rfl, hx⟩; have HX := hid (HE.out.trans hx); have e0 := hx.cell c0; have e1 := hx.cell c1; have e2 := hx.cell c2; have el := Nat.lt_of_lt_of_le lbr hx.size; clear hx))
                go_roundw
                case rel => exact ⟨k + 1, 0, by omega, by go_num, rfl, HX4.out, HW.out⟩
                case measure => simp [intOf]; omega
              | false =>
                rw [hr] at H9
                rw [hr, if_neg Bool.false_ne_true] at hm9
                have HW := HNx _ hm9
                clear hm9 HNx hr
                go_wp2_with (first
                  | (go_at_call 31; refine ((H9 _).out).mono ?_; rintro e w4 ⟨rfl, hx⟩; have HX4 := hid (HX.out.trans hx); clear hx)
                  | (go_at_call 30; refine ((H7 _).out).mono ?_; rintro e w3 ⟨rfl, hx⟩; have HX := hid (HE.out.trans hx); have e0 := hx.cell c0; have e1 := hx.cell c1; have e2 := hx.cell c2; have el := Nat.lt_of_lt_of_le lbr hx.size; clear hx))
                go_roundw
                case rel => exact ⟨k + 1, 2, by omega, by go_num, rfl, HX4.out, HW.out⟩
                case measure => simp [intOf]; omega
        · have HFk : Hid (firstK f = z) := by unfold Want at hw; rw [if_neg hz] at hw; exact hw
          have dz : (z == 0) = false := by simp [hz]
          have dk : decide (k < f.length) = true := decide_eq_true hlt
          clear hz hlt
          clear hE h3 hw
          cases d8 : decide ((8 : Int) < f.length) with
          | true =>
            have hcf : Hid (checkF f = 4) := by unfold Hid checkF; rw [if_pos (by simp at d8; omega)]
            go_wp2_with fail
            refine ((HA _ HE.out).out).mono ?_
            rintro e w5 ⟨rfl, hx5⟩
            have HE5 := hid (HE.out.trans hx5)
            clear hx5
            go_wp2_with fail
            refine ((HC _ HE5.out).out).mono ?_
            rintro e w6 ⟨rfl, hx6⟩
            have HE6 := hid (HE5.out.trans hx6)
            clear hx6
            rw [hcf.out]
            go_wp2_with fail
            go_ret
            exact ⟨rfl, HE6.out⟩
          | false =>
            have hcf : Hid (checkF f = z) := by unfold Hid checkF; rw [if_neg (by simp at d8; omega), HFk.out]
            go_wp2_with fail
            refine ((HA _ HE.out).out).mono ?_
            rintro e w5 ⟨rfl, hx5⟩
            have HE5 := hid (HE.out.trans hx5)
            clear hx5
            go_wp2_with fail
            refine ((HC _ HE5.out).out).mono ?_
            rintro e w6 ⟨rfl, hx6⟩
            have HE6 := hid (HE5.out.trans hx6)
            clear hx6
            rw [hcf.out]
            go_wp2_with fail
            go_ret
            exact ⟨by simp, HE6.out⟩
      · obtain rfl : k = f.length := by omega
        have HFk : Hid (firstK f = z) := by
          unfold Want at hw
          by_cases h0 : z = 0
          · rw [if_pos h0, List.drop_length] at hw; rw [h0]; exact hw
          · rw [if_neg h0] at hw; exact hw
        clear hE h3 hw
        cases d8 : decide ((8 : Int) < f.length) with
        | true =>
          have hcf : Hid (checkF f = 4) := by unfold Hid checkF; rw [if_pos (by simp at d8; omega)]
          go_wp2_with fail
          refine ((HA _ HE.out).out).mono ?_
          rintro e w5 ⟨rfl, hx5⟩
          have HE5 := hid (HE.out.trans hx5)
          clear hx5
          go_wp2_with fail
          refine ((HC _ HE5.out).out).mono ?_
          rintro e w6 ⟨rfl, hx6⟩
          have HE6 := hid (HE5.out.trans hx6)
          clear hx6
          rw [hcf.out]
          go_wp2_with fail
          go_ret
          exact ⟨rfl, HE6.out⟩
        | false =>
          have hcf : Hid (checkF f = z) := by unfold Hid checkF; rw [if_neg (by simp at d8; omega), HFk.out]
          go_wp2_with fail
          refine ((HA _ HE.out).out).mono ?_
          rintro e w5 ⟨rfl, hx5⟩
          have HE5 := hid (HE.out.trans hx5)
          clear hx5
          go_wp2_with fail
          refine ((HC _ HE5.out).out).mono ?_
          rintro e w6 ⟨rfl, hx6⟩
          have HE6 := hid (HE5.out.trans hx6)
          clear hx6
          rw [hcf.out]
          go_wp2_with fail
          go_ret
          exact ⟨by simp, HE6.out⟩
end Go.Proofs.YtgkdiknmjgpgmaaDoor
