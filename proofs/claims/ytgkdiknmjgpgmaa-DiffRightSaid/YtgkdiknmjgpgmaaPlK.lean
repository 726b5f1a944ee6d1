/-
  The law DiffRight: its walk.
-/
import Derived.Test.YtgkdiknmjgpgmaaPlJ
namespace Go.Proofs.Ytgkdiknmjgpgmaa
set_option linter.unusedSimpArgs false
set_option linter.unusedVariables false
open Go.RowKit

set_option maxRecDepth 100000 in
set_option maxHeartbeats 4000000 in
theorem diffRight_walk (w : World) (u v : Value) (l : List LeafI) (b : List UpdI) (hu : Sl w 5 u (l.map LeafI.cells)) (hb : Sl w 8 v (b.map UpdI.cells)) (hkb : ∀ x ∈ b, okV x.item) : Calls Try.prog 7 #[u, v] w (Ret (.bool true) w) := by
  have HF2 := fun W (hW : Ext w W) => hid (few40_e W v b (hb.ext hW) hkb)
  have HS := hid hu
  obtain ⟨A, c, rfl, h1, h2, h3⟩ := sl_get hu
  unfold maxLen at h2
  obtain ⟨A2, c2, rfl, _⟩ := sl_get hb
  clear hb hkb hu
  go_enter Try.func7, Try.ntmps7
  go_wp2_with fail
  go_loopw [5] (fun i wr => ∃ k : Nat, k ≤ l.length ∧ k ≤ 41 ∧ i = .int .i64 k ∧ Ext w wr) (fun i _ => l.length - (intOf i).toNat)
  case atStart => exact ⟨0, by omega, by omega, rfl, Ext.refl _⟩
  case round =>
    obtain ⟨k, hk, hk41, rfl, hE⟩ := hrel
    have HE := hid hE
    by_cases hlt : k < l.length
    · obtain ⟨b', o, rfl, lb, hcell⟩ := h3 (by omega)
      have c0 := hE.cell (hcell k hlt 0 _ rfl)
      rw [Nat.add_zero] at c0
      have lbr := Nat.lt_of_lt_of_le lb hE.size
      clear hcell h3 hE
      generalize l[k].name = z at c0
      by_cases h200 : 200 < z.size
      · have d1 : decide ((200 : Int) < z.size) = true := by simp; omega
        go_wp2_with (go_at_call 24; refine (awake40_c _).mono ?_; rintro e w3 ⟨rfl, hx3⟩; have HW3 := hid hx3; clear hx3)
        go_ret
        exact ⟨rfl, HE.out.trans HW3.out⟩
      · have d1 : decide ((200 : Int) < z.size) = false := by simp; omega
        by_cases h40 : 40 < k
        · have d2 : decide ((40 : Int) < k) = true := by simp; omega
          go_wp2_with (go_at_call 24; refine (awake40_c _).mono ?_; rintro e w3 ⟨rfl, hx3⟩; have HW3 := hid hx3; clear hx3)
          go_ret
          exact ⟨rfl, HE.out.trans HW3.out⟩
        · have d2 : decide ((40 : Int) < k) = false := by simp; omega
          go_wp2_with fail
          go_roundw
          case rel => exact ⟨k + 1, by omega, by omega, by go_num, HE.out⟩
          case measure => simp [intOf]; omega
    · obtain rfl : k = l.length := by omega
      have HSr := hid (HS.out.ext hE)
      clear hE h3
      go_wp2_with (first
        | (go_at_call 29; refine (dright_c _ _ M HM.out (by omega)).mono ?_; rintro e wd ⟨rfl, hxd⟩; rw [rightB_of HMr.out]; have HE5 := hid (HE4.out.trans hxd); clear hxd HM)
        | (go_at_call 23; refine (HF2 _ (HE.out.trans HE3.out)).out.mono ?_; rintro e w4 ⟨v4, rfl, ⟨M, hM, hM2⟩, hx4⟩; have HE4 := hid (HE3.out.trans hx4); have HM := hid hM.1; have hlm := hM2.2.1; have HMr := hid hM2.1; clear hx4 hM hM2 HF2 HE3)
        | (go_at_call 30; refine (right40_c _ _ l (HSr.out.ext HE2.out)).mono ?_; rintro e w3 ⟨rfl, hx3⟩; have HE3 := hid (HE2.out.trans hx3); clear hx3 HE2)
        | (go_at_call 29; refine (dright_c _ _ l (HSr.out.ext HE1.out) (by omega)).mono ?_; rintro e w2 ⟨rfl, hx2⟩; have HE2 := hid (HE1.out.trans hx2); clear hx2 HE1)
        | (go_at_call 24; refine (awake40_c _).mono ?_; rintro e w1 ⟨rfl, hx1⟩; have HE1 := hid hx1; clear hx1))
      go_ret
      exact ⟨rfl, HE.out.trans HE5.out⟩
end Go.Proofs.Ytgkdiknmjgpgmaa
