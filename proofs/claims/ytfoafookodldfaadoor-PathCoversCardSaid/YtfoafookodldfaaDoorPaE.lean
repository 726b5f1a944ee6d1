/-
  lighteragelaw07.PathOrder: its walk.
-/
import Derived.Test.YtfoafookodldfaaDoorPaD
namespace Go.Proofs.YtfoafookodldfaaDoor
set_option linter.unusedSimpArgs false
set_option linter.unusedVariables false
open Go.RowKit

theorem cov_antisymm {a b : ByteArray} (h1 : cov a b = true) (h2 : cov b a = true) : a = b := by
  rw [cov_iff] at *
  refine toList_inj ?_
  rcases h1 with h1 | h1 | h1
  · rcases h2 with h2 | h2 | h2
    · rw [h1, h2]
    · exact h2
    · rw [h1] at h2
      have := h2.length_le
      simp at this
  · exact h1.symm
  · rcases h2 with h2 | h2 | h2
    · rw [h2] at h1
      have := h1.length_le
      simp at this
    · exact h2
    · have := h1.length_le
      have := h2.length_le
      simp at *
      omega
theorem cov_self (a : ByteArray) : cov a a = true := (cov_iff _ _).2 (.inr (.inl rfl))
theorem cov_nil (a : ByteArray) : cov ⟨#[]⟩ a = true := (cov_iff _ _).2 (.inl nil_toList)

set_option maxRecDepth 100000 in
set_option maxHeartbeats 4000000 in
theorem order_walk (w : World) (m : Int) (hm : w.cell? ⟨0, 0, none⟩ = some (.int .i64 m)) (a b c : ByteArray) (ha : a.size ≤ maxLen) (hb : b.size ≤ maxLen) (hc : c.size ≤ maxLen) : Calls Tryd.prog 3 #[.string a, .string b, .string c] w (Ret (.bool true) w) := by
  have HA : Hid (∀ W, Ext w W → Calls Tryd.prog 7 #[] W (Ret (.bool true) W)) := fun W he => awake_c W m (he.cell hm)
  unfold maxLen at ha hb hc
  clear hm
  by_cases p1 : 500 < a.size
  · have d1 : decide ((500 : Int) < (a.size : Int)) = true := by simp; omega
    go_enter Tryd.func3, Tryd.ntmps3
    go_wp2_with (go_at_call 7; refine (HA.out _ (Ext.refl _)).mono ?_; rintro e v2 ⟨rfl, z2⟩)
    go_ret
    exact ⟨rfl, z2⟩
  · have d1 : decide ((500 : Int) < (a.size : Int)) = false := by simp; omega
    by_cases p2 : 500 < b.size
    · have d2 : decide ((500 : Int) < (b.size : Int)) = true := by simp; omega
      go_enter Tryd.func3, Tryd.ntmps3
      go_wp2_with (go_at_call 7; refine (HA.out _ (Ext.refl _)).mono ?_; rintro e v2 ⟨rfl, z2⟩)
      go_ret
      exact ⟨rfl, z2⟩
    · have d2 : decide ((500 : Int) < (b.size : Int)) = false := by simp; omega
      by_cases p3 : 500 < c.size
      · have d3 : decide ((500 : Int) < (c.size : Int)) = true := by simp; omega
        go_enter Tryd.func3, Tryd.ntmps3
        go_wp2_with (go_at_call 7; refine (HA.out _ (Ext.refl _)).mono ?_; rintro e v2 ⟨rfl, z2⟩)
        go_ret
        exact ⟨rfl, z2⟩
      · have d3 : decide ((500 : Int) < (c.size : Int)) = false := by simp; omega
        have HC : Hid (∀ W x y, x.size ≤ 1000 → y.size ≤ 1000 → Calls Tryd.prog 8 #[.string x, .string y] W (fun e w' => e = .returned (.bool (cov x y)) ∧ W = w')) := fun W x y hx hy => pcovers_c _ _ W (by unfold maxLen; omega) (by unfold maxLen; omega)
        have hsa : a.size ≤ 1000 := by omega
        have hsb : b.size ≤ 1000 := by omega
        have hsc : c.size ≤ 1000 := by omega
        have hs0 : (⟨#[]⟩ : ByteArray).size ≤ 1000 := by simp [size_lit]
        have haa := cov_self a
        have hea := cov_nil a
        clear p1 p2 p3
        cases hab : cov a b with
        | true =>
          cases hbc : cov b c with
          | true =>
            have hac := cov_trans hab hbc
            cases hba : cov b a with
            | true =>
              obtain rfl := cov_antisymm hab hba
              have heq : (a.toList == a.toList) = true := by simp
              go_enter Tryd.func3, Tryd.ntmps3
              go_wp2_with (first
                | (go_at_call 8; refine (HC.out _ _ _ ?_ ?_).mono ?_; (· first | exact hsa | exact hsb | exact hsc | exact hs0); (· first | exact hsa | exact hsb | exact hsc | exact hs0); rintro e w' ⟨rfl, rfl⟩)
                | (go_at_call 7; refine (HA.out _ (Ext.refl _)).mono ?_; rintro e v2 ⟨rfl, hx⟩; have HX := hid hx; clear hx))
              go_ret
              exact ⟨rfl, HX.out⟩
            | false =>
              go_enter Tryd.func3, Tryd.ntmps3
              go_wp2_with (first
                | (go_at_call 8; refine (HC.out _ _ _ ?_ ?_).mono ?_; (· first | exact hsa | exact hsb | exact hsc | exact hs0); (· first | exact hsa | exact hsb | exact hsc | exact hs0); rintro e w' ⟨rfl, rfl⟩)
                | (go_at_call 7; refine (HA.out _ (Ext.refl _)).mono ?_; rintro e v2 ⟨rfl, hx⟩; have HX := hid hx; clear hx))
              go_ret
              exact ⟨rfl, HX.out⟩
          | false =>
            cases hba : cov b a with
            | true =>
              obtain rfl := cov_antisymm hab hba
              have heq : (a.toList == a.toList) = true := by simp
              go_enter Tryd.func3, Tryd.ntmps3
              go_wp2_with (first
                | (go_at_call 8; refine (HC.out _ _ _ ?_ ?_).mono ?_; (· first | exact hsa | exact hsb | exact hsc | exact hs0); (· first | exact hsa | exact hsb | exact hsc | exact hs0); rintro e w' ⟨rfl, rfl⟩)
                | (go_at_call 7; refine (HA.out _ (Ext.refl _)).mono ?_; rintro e v2 ⟨rfl, hx⟩; have HX := hid hx; clear hx))
              go_ret
              exact ⟨rfl, HX.out⟩
            | false =>
              go_enter Tryd.func3, Tryd.ntmps3
              go_wp2_with (first
                | (go_at_call 8; refine (HC.out _ _ _ ?_ ?_).mono ?_; (· first | exact hsa | exact hsb | exact hsc | exact hs0); (· first | exact hsa | exact hsb | exact hsc | exact hs0); rintro e w' ⟨rfl, rfl⟩)
                | (go_at_call 7; refine (HA.out _ (Ext.refl _)).mono ?_; rintro e v2 ⟨rfl, hx⟩; have HX := hid hx; clear hx))
              go_ret
              exact ⟨rfl, HX.out⟩
        | false =>
          go_enter Tryd.func3, Tryd.ntmps3
          go_wp2_with (first
            | (go_at_call 8; refine (HC.out _ _ _ ?_ ?_).mono ?_; (· first | exact hsa | exact hsb | exact hsc | exact hs0); (· first | exact hsa | exact hsb | exact hsc | exact hs0); rintro e w' ⟨rfl, rfl⟩)
            | (go_at_call 7; refine (HA.out _ (Ext.refl _)).mono ?_; rintro e v2 ⟨rfl, hx⟩; have HX := hid hx; clear hx))
          go_ret
          exact ⟨rfl, HX.out⟩
end Go.Proofs.YtfoafookodldfaaDoor
