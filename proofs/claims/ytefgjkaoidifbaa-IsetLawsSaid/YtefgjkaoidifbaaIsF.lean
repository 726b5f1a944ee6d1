/-
  The walks of the laws IsetTwo, IsetLaws.
-/
import Derived.Test.YtefgjkaoidifbaaIsC
namespace Go.Proofs.Ytefgjkaoidifbaa
set_option linter.unusedSimpArgs false
set_option linter.unusedVariables false
open Go.RowKit

theorem RowAt.sl {α : Type} {code : α → List Value} {sz : Nat} {l : List α} {v : Value} {w : World} (h : RowAt code sz l v w) : Sl w sz v (l.map code) := h.1
theorem within_of {a b : List Ver} (h : ∀ x ∈ a, x ∈ b) : within a b = true := by
  have e : a.filter (fun x => !hasV b x) = [] := by
    rw [List.filter_eq_nil_iff]
    intro x hx
    simp [hasV, h x hx]
  unfold within minusV
  rw [e]
  rfl
theorem mem_minusV (a b : List Ver) (x : Ver) : x ∈ minusV a b ↔ x ∈ a ∧ x ∉ b := by
  unfold minusV
  rw [mem_setL Ver.strict, List.mem_filter]
  simp [hasV]
theorem mem_meetV (a b : List Ver) (x : Ver) : x ∈ meetV a b ↔ x ∈ a ∧ x ∈ b := by
  unfold meetV
  rw [mem_setL Ver.strict, List.mem_filter]
  simp [hasV]
theorem minusV_len (a b : List Ver) : (minusV a b).length ≤ a.length := Nat.le_trans (setL_length Ver.strict _) (List.length_filter_le _ _)
theorem meetV_len (a b : List Ver) : (meetV a b).length ≤ a.length := Nat.le_trans (setL_length Ver.strict _) (List.length_filter_le _ _)
theorem laws_same (a b : List Ver) : (within (setL Ver.lt (minusV a b ++ meetV a b)) a && within a (setL Ver.lt (minusV a b ++ meetV a b))) = true := by
  rw [within_of, within_of]
  · rfl
  · intro x hx
    rw [mem_setL Ver.strict, List.mem_append, mem_minusV, mem_meetV]
    by_cases h : x ∈ b
    · exact .inr ⟨hx, h⟩
    · exact .inl ⟨hx, h⟩
  · intro x hx
    rw [mem_setL Ver.strict, List.mem_append, mem_minusV, mem_meetV] at hx
    rcases hx with h | h
    · exact h.1
    · exact h.1
theorem laws_none (a b : List Ver) : meetV (minusV a b) b = [] := by
  rcases h : meetV (minusV a b) b with _ | ⟨x, l⟩
  · rfl
  · have : x ∈ meetV (minusV a b) b := by rw [h]; simp
    rw [mem_meetV, mem_minusV] at this
    exact absurd this.2 this.1.2
theorem laws_in (a b : List Ver) : within (meetV a b) b = true := within_of fun x hx => ((mem_meetV a b x).1 hx).2
theorem laws_join (a b : List Ver) : within a (setL Ver.lt (b ++ a)) = true := within_of fun x hx => by rw [mem_setL Ver.strict, List.mem_append]; exact .inr hx

set_option maxRecDepth 100000 in
set_option maxHeartbeats 4000000 in
theorem laws_walk (a0 b0 : List Ver) (v u : Value) (w : World) (h : Sl w 2 v (a0.map Ver.cells)) (hb : Sl w 2 u (b0.map Ver.cells)) : Calls Try.prog 7 #[v, u] w (Ret (.bool true) w) := by
  have HF1 := hid (few_c w v a0 h)
  have HF2 := hid (few_c w u b0 hb)
  have hla : (a0.take 50).length ≤ 50 := by rw [List.length_take]; omega
  have hlb : (b0.take 50).length ≤ 50 := by rw [List.length_take]; omega
  obtain ⟨A, c, rfl, _⟩ := sl_get h
  obtain ⟨A', c', rfl, _⟩ := sl_get hb
  clear h hb
  generalize a0.take 50 = a at HF1 hla
  generalize b0.take 50 = b at HF2 hlb
  have q1 := minusV_len a b
  have q2 := meetV_len a b
  have q3 : (setL Ver.lt (minusV a b ++ meetV a b)).length ≤ 1000 := by have := setL_length Ver.strict (minusV a b ++ meetV a b); rw [List.length_append] at this; omega
  go_enter Try.func7, Try.ntmps7
  go_wp2_with (first
    | (go_at_call 25; (with_reducible refine (HF2.out).mono ?_); rintro e w' ⟨u1, rfl, hs, rfl⟩; have HB := hid hs; clear hs)
    | (go_at_call 25; (with_reducible refine (HF1.out).mono ?_); rintro e w' ⟨v1, rfl, hs, rfl⟩; have HA := hid hs; clear hs)
    | (go_at_call 40; (with_reducible refine (within_c _ _ _ _ _ (HA.out.ext HX10.out) HJ2.out.sl (by omega)).mono ?_); rintro e w11 ⟨rfl, hx⟩; have HX11 := hid (HX10.out.trans hx); clear hx; rw [laws_join])
    | (go_at_call 36; (with_reducible refine (join_c _ _ _ _ _ (HB.out.ext HX9.out) (HA.out.ext HX9.out) (by omega) (by omega)).mono ?_); rintro e w10 ⟨j2, rfl, hv, hx⟩; have HX10 := hid (HX9.out.trans hx); have HJ2 := hid hv; clear hx hv)
    | (go_at_call 40; (with_reducible refine (within_c _ _ _ _ _ HM5.out.sl (HB.out.ext HX8.out) (by omega)).mono ?_); rintro e w9 ⟨rfl, hx⟩; have HX9 := hid (HX8.out.trans hx); clear hx; rw [laws_in])
    | (go_at_call 37; (with_reducible refine (meet_c _ _ _ _ _ (HA.out.ext HX7.out) (HB.out.ext HX7.out) (by omega)).mono ?_); rintro e w8 ⟨m5, rfl, hv, hx⟩; have HX8 := hid (HX7.out.trans hx); have HM5 := hid hv; clear hx hv)
    | (go_at_call 37; (with_reducible refine (meet_c _ _ _ _ _ HM3.out.sl (HB.out.ext HX6.out) (by omega)).mono ?_); rintro e w7 ⟨m4, rfl, hv, hx⟩; rw [laws_none] at hv; obtain rfl := hv.2 rfl; have HX7 := hid (HX6.out.trans hx); clear hx hv)
    | (go_at_call 39; (with_reducible refine (minus_c _ _ _ _ _ (HA.out.ext HX5.out) (HB.out.ext HX5.out) (by omega)).mono ?_); rintro e w6 ⟨m3, rfl, hv, hx⟩; have HX6 := hid (HX5.out.trans hx); have HM3 := hid hv; clear hx hv)
    | (go_at_call 41; (with_reducible refine (isame_c _ _ _ _ _ HJ1.out.sl (HA.out.ext HX4.out) (by omega) (by omega)).mono ?_); rintro e w5 ⟨rfl, hx⟩; have HX5 := hid (HX4.out.trans hx); clear hx; rw [laws_same])
    | (go_at_call 36; (with_reducible refine (join_c _ _ _ _ _ HM1.out.sl HM2.out.sl (by omega) (by omega)).mono ?_); rintro e w4 ⟨j1, rfl, hv, hx⟩; have HX4 := hid (HX3.out.trans hx); have HJ1 := hid hv; clear hx hv)
    | (go_at_call 37; (with_reducible refine (meet_c _ _ _ _ _ (HA.out.ext HX2.out) (HB.out.ext HX2.out) (by omega)).mono ?_); rintro e w3 ⟨m2, rfl, hv, hx⟩; have HX3 := hid (HX2.out.trans hx); have HM2 := hid hv; have HM1 := hid (HM0.out.ext hx); clear hx hv)
    | (go_at_call 39; (with_reducible refine (minus_c _ _ _ _ _ (HA.out.ext HX1.out) (HB.out.ext HX1.out) (by omega)).mono ?_); rintro e w2 ⟨m1, rfl, hv, hx⟩; have HX2 := hid (HX1.out.trans hx); have HM0 := hid hv; clear hx hv)
    | (go_at_call 29; refine (awake_c _).mono ?_; rintro e w1 ⟨rfl, hx⟩; have HX1 := hid hx; clear hx))
  go_ret
  exact ⟨rfl, HX11.out⟩
end Go.Proofs.Ytefgjkaoidifbaa
