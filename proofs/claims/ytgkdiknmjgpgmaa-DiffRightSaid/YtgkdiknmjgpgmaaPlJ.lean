/-
  The laws DiffPlays, DiffRight: their walks.
-/
import Derived.Test.YtgkdiknmjgpgmaaPlI
namespace Go.Proofs.Ytgkdiknmjgpgmaa
set_option linter.unusedSimpArgs false
set_option linter.unusedVariables false
open Go.RowKit

set_option maxRecDepth 100000 in
set_option maxHeartbeats 4000000 in
theorem diffPlays_walk (w : World) (u v : Value) (a b : List UpdI) (ha : Sl w 8 u (a.map UpdI.cells)) (hb : Sl w 8 v (b.map UpdI.cells)) (hka : ∀ x ∈ a, okV x.item) (hkb : ∀ x ∈ b, okV x.item) : Calls Try.prog 6 #[u, v] w (Ret (.bool true) w) := by
  have HF1 := hid (few40_e w u a ha hka)
  have HF2 := fun W (hW : Ext w W) => hid (few40_e W v b (hb.ext hW) hkb)
  obtain ⟨A, c, rfl, _⟩ := sl_get ha
  obtain ⟨A2, c2, rfl, _⟩ := sl_get hb
  clear ha hb hka hkb
  go_enter Try.func6, Try.ntmps6
  go_wp2_with (first
    | (go_at_call 25; refine (texts_c _ _ _ _ _ (HP3.out.ext HEa.out) HN3.out).mono ?_; rintro e wd ⟨rfl, hxd⟩; rw [decide_eq_true rfl]; have HE12 := hid (HE11.out.trans hxd); clear hxd HP3 HN3)
    | (go_at_call 28; refine (rnames_c _ _ L (HA.out.ext HE10.out) (by omega) HLs.out).mono ?_; rintro e wc ⟨vc, rfl, hvc, hxc⟩; have HN3 := hid hvc.1; have HEa := hid hxc; have HE11 := hid (HE10.out.trans hxc); clear hxc hvc HE10)
    | (go_at_call 26; refine (plays_nil_c _ _ L HLL.out (HA.out.ext HE9.out)).mono ?_; rintro e wb ⟨vb, rfl, hvb, hxb⟩; have HP3 := hid hvb.1; have HE10 := hid (HE9.out.trans hxb); clear hxb hvb HE9)
    | (go_at_call 25; refine (texts_c _ _ _ _ _ (HP2.out.ext HE8a.out) HN2.out).mono ?_; rintro e wa ⟨rfl, hxa⟩; rw [decide_eq_true rfl]; have HE9 := hid (HE8.out.trans hxa); clear hxa HP2 HN2 HE8)
    | (go_at_call 28; refine (rnames_c _ _ L (HA.out.ext HE7.out) (by omega) HLs.out).mono ?_; rintro e w9 ⟨v9, rfl, hv9, hx9⟩; have HN2 := hid hv9.1; have HE8a := hid hx9; have HE8 := hid (HE7.out.trans hx9); clear hx9 hv9 HE7)
    | (go_at_call 26; refine (plays_c _ _ _ M L HLM.out HLL.out (HB.out.ext HE6.out) HT2.out).mono ?_; rintro e w8 ⟨v8, rfl, hv8, hx8⟩; have HP2 := hid hv8.1; have HE7 := hid (HE6.out.trans hx8); clear hx8 hv8 HE6 HT2)
    | (go_at_call 27; refine (dTurns_c _ _ _ M L (HB.out.ext HE5.out) (HA.out.ext HE5.out) (by omega) (by omega)).mono ?_; rintro e w7 ⟨v7, rfl, hv7, hx7⟩; have HT2 := hid hv7.1; have HE6 := hid (HE5.out.trans hx7); clear hx7 hv7 HE5)
    | (go_at_call 25; refine (texts_c _ _ _ _ _ (HP1.out.ext HE4a.out) HN1.out).mono ?_; rintro e w6 ⟨rfl, hx6⟩; rw [decide_eq_true rfl]; have HE5 := hid (HE4.out.trans hx6); clear hx6 HP1 HN1 HE4)
    | (go_at_call 28; refine (rnames_c _ _ M (HB.out.ext HE3.out) (by omega) HMs.out).mono ?_; rintro e w5 ⟨v5, rfl, hv5, hx5⟩; have HN1 := hid hv5.1; have HE4a := hid hx5; have HE4 := hid (HE3.out.trans hx5); clear hx5 hv5 HE3)
    | (go_at_call 26; refine (plays_c _ _ _ L M HLL.out HLM.out (HA.out.ext HE2.out) HT1.out).mono ?_; rintro e w4 ⟨v4, rfl, hv4, hx4⟩; have HP1 := hid hv4.1; have HE3 := hid (HE2.out.trans hx4); clear hx4 hv4 HE2 HT1)
    | (go_at_call 27; refine (dTurns_c _ _ _ L M (HA.out.ext HW3.out) (HB.out.ext HW3.out) (by omega) (by omega)).mono ?_; rintro e w4 ⟨v4, rfl, hv4, hx4⟩; have HT1 := hid hv4.1; have HE2 := hid (HW3.out.trans hx4); clear hx4 hv4 HW3)
    | (go_at_call 24; refine (awake40_c _).mono ?_; rintro e w3 ⟨rfl, hx3⟩; have HW3 := hid hx3; clear hx3)
    | (go_at_call 23; refine (HF2 _ HX1.out).out.mono ?_; rintro e w2 ⟨v2, rfl, ⟨M, hM, hM2⟩, hx2⟩; have HX2 := hid (HX1.out.trans hx2); have HB := hid hM.1; have HA := hid (HA1.out.ext hx2); have hlm := hM2.2.1; have HLM := hid hM2; have HMs := hid (slight_sz hM2.2.2); clear hx2 hM hM2 HF2 HA1)
    | (go_at_call 23; refine (HF1.out).mono ?_; rintro e w1 ⟨v1, rfl, ⟨L, hL, hL2⟩, hx1⟩; have HX1 := hid hx1; have HA1 := hid hL.1; have hll := hL2.2.1; have HLL := hid hL2; have HLs := hid (slight_sz hL2.2.2); clear hx1 hL hL2 HF1))
  go_ret
  exact ⟨rfl, HX2.out.trans HE12.out⟩
end Go.Proofs.Ytgkdiknmjgpgmaa
