/-
  The law DiffTurns: its walk.
-/
import Derived.Test.YtgkdiknmjgpgmaaPlH
namespace Go.Proofs.Ytgkdiknmjgpgmaa
set_option linter.unusedSimpArgs false
set_option linter.unusedVariables false
open Go.RowKit

theorem turns_self_v {L : List LeafI} {v : Value} {w : World} (h : RowAt TurnI.cells 4 (allTurns L L) v w) : v = .slice none 0 0 := h.2 (by rw [turns_self]; rfl)
theorem slight_sz {L : List LeafI} (h : ∀ x ∈ L, Slight x) : ∀ x ∈ L, x.name.size ≤ 1000 ∧ x.d.size ≤ 1000 := fun x hx => by
  have := h x hx
  unfold Slight at this
  omega
set_option maxRecDepth 100000 in
set_option maxHeartbeats 4000000 in
theorem diffTurns_walk (w : World) (u v : Value) (a b : List UpdI) (ha : Sl w 8 u (a.map UpdI.cells)) (hb : Sl w 8 v (b.map UpdI.cells)) (hka : ∀ x ∈ a, okV x.item) (hkb : ∀ x ∈ b, okV x.item) : Calls Try.prog 9 #[u, v] w (Ret (.bool true) w) := by
  have HF1 := hid (few40_e w u a ha hka)
  have HF2 := fun W (hW : Ext w W) => hid (few40_e W v b (hb.ext hW) hkb)
  obtain ⟨A, c, rfl, _⟩ := sl_get ha
  obtain ⟨A2, c2, rfl, _⟩ := sl_get hb
  clear ha hb hka hkb
  go_enter Try.func9, Try.ntmps9
  go_wp2_with (first
    | (go_at_call 25; refine (texts_c _ _ _ _ _ (HN1.out.ext HE8.out) HN2.out).mono ?_; rintro e w9 ⟨rfl, hx9⟩; rw [decide_eq_true rfl]; have HE9 := hid (HE6.out.trans (HE7.out.trans (HE8.out.trans hx9))); clear hx9 HN2)
    | (go_at_call 28; refine (rnames_c _ _ L (HA.out.ext (HE6.out.trans HE7.out)) (by omega) HLs.out).mono ?_; rintro e w8 ⟨v8, rfl, hv8, hx8⟩; have HE8 := hid hx8; have HN2 := hid hv8.1; clear hx8 hv8)
    | (go_at_call 34; refine (dnames_c _ _ L (HA.out.ext HE6.out) (by omega) HLs.out).mono ?_; rintro e w7 ⟨v7, rfl, hv7, hx7⟩; have HE7 := hid hx7; have HN1 := hid hv7.1; clear hx7 hv7)
    | (go_at_call 27; refine (dTurns_c _ _ _ L L (HA.out.ext HE5.out) (HA.out.ext HE5.out) (by omega) (by omega)).mono ?_; rintro e w6 ⟨v6, rfl, hv6, hx6⟩; obtain rfl := turns_self_v hv6; have HE6 := hid (HE5.out.trans hx6); clear hx6 hv6 HT2)
    | (go_at_call 32; refine (tsame_c _ _ _ (allTurns L M) (HT1.out.ext HX4.out) HT2.out).mono ?_; rintro e w5 ⟨rfl, hx5⟩; have HE5 := hid (HE4.out.trans hx5); clear hx5 HT1)
    | (go_at_call 33; refine (rTurns_c _ _ _ L M (HA.out.ext HE3.out) (HB.out.ext HE3.out) (by omega) (by omega)).mono ?_; rintro e w4 ⟨v4, rfl, hv4, hx4⟩; have HT2 := hid hv4.1; have HX4 := hid hx4; have HE4 := hid (HE3.out.trans hx4); clear hx4 hv4)
    | (go_at_call 27; refine (dTurns_c _ _ _ L M (HA.out.ext HW3.out) (HB.out.ext HW3.out) (by omega) (by omega)).mono ?_; rintro e w4 ⟨v4, rfl, hv4, hx4⟩; have HT1 := hid hv4.1; have HE3 := hid (HW3.out.trans hx4); clear hx4 hv4 HW3)
    | (go_at_call 24; refine (awake40_c _).mono ?_; rintro e w3 ⟨rfl, hx3⟩; have HW3 := hid hx3; clear hx3)
    | (go_at_call 23; refine (HF2 _ HX1.out).out.mono ?_; rintro e w2 ⟨v2, rfl, ⟨M, hM, hM2⟩, hx2⟩; have HX2 := hid (HX1.out.trans hx2); have HB := hid hM.1; have HA := hid (HA1.out.ext hx2); have hlm := hM2.2.1; clear hx2 hM hM2 HF2 HA1)
    | (go_at_call 23; refine (HF1.out).mono ?_; rintro e w1 ⟨v1, rfl, ⟨L, hL, hL2⟩, hx1⟩; have HX1 := hid hx1; have HA1 := hid hL.1; have hll := hL2.2.1; have HLs := hid (slight_sz hL2.2.2); clear hx1 hL hL2 HF1))
  go_ret
  exact ⟨rfl, HX2.out.trans HE9.out⟩
end Go.Proofs.Ytgkdiknmjgpgmaa
