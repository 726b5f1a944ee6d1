/-
  lighteragelaw07.PathCovers: its walk.
-/
import Derived.Test.YtfoafookodldfaaDoorPaE
namespace Go.Proofs.YtfoafookodldfaaDoor
set_option linter.unusedSimpArgs false
set_option linter.unusedVariables false
open Go.RowKit

/-- what is ahead of the last slash below k -/
def parTo (s : ByteArray) (k : Nat) : ByteArray := s.extract 0 (lastK s k).toNat
theorem parTo_all (s : ByteArray) : parTo s s.size = parentK s := rfl
theorem parTo_zero (s : ByteArray) : parTo s 0 = ⟨#[]⟩ := by
  unfold parTo lastK
  exact extract_zero s
theorem parTo_yes (s : ByteArray) (k : Nat) (h : s.toList[k]? = some 47) : parTo s (k + 1) = s.extract 0 k := by
  have e : lastK s (k + 1) = if s.toList[k]? = some 47 then (k : Int) else lastK s k := rfl
  unfold parTo
  rw [e, if_pos h, Int.toNat_natCast]
theorem parTo_no (s : ByteArray) (k : Nat) (h : ¬ s.toList[k]? = some 47) : parTo s (k + 1) = parTo s k := by
  have e : lastK s (k + 1) = if s.toList[k]? = some 47 then (k : Int) else lastK s k := rfl
  unfold parTo
  rw [e, if_neg h]

set_option maxRecDepth 100000 in
set_option maxHeartbeats 4000000 in
theorem covers_walk (w : World) (m : Int) (hm : w.cell? ⟨0, 0, none⟩ = some (.int .i64 m)) (a b : ByteArray) (ha : a.size ≤ maxLen) (hb : b.size ≤ maxLen) : Calls Tryd.prog 4 #[.string a, .string b] w (Ret (.bool true) w) := by
  have HA : Hid (∀ W, Ext w W → Calls Tryd.prog 7 #[] W (Ret (.bool true) W)) := fun W he => awake_c W m (he.cell hm)
  unfold maxLen at ha hb
  clear hm
  by_cases p1 : 1000 < a.size
  · have d1 : decide ((1000 : Int) < (a.size : Int)) = true := by simp; omega
    go_enter Tryd.func4, Tryd.ntmps4
    go_wp2_with (go_at_call 7; refine (HA.out _ (Ext.refl _)).mono ?_; rintro e v2 ⟨rfl, z2⟩)
    go_ret
    exact ⟨rfl, z2⟩
  · have d1 : decide ((1000 : Int) < (a.size : Int)) = false := by simp; omega
    by_cases p2 : 1000 < b.size
    · have d2 : decide ((1000 : Int) < (b.size : Int)) = true := by simp; omega
      go_enter Tryd.func4, Tryd.ntmps4
      go_wp2_with (go_at_call 7; refine (HA.out _ (Ext.refl _)).mono ?_; rintro e v2 ⟨rfl, z2⟩)
      go_ret
      exact ⟨rfl, z2⟩
    · have d2 : decide ((1000 : Int) < (b.size : Int)) = false := by simp; omega
      have HC : Hid (∀ W x y, x.size ≤ 1000 → y.size ≤ 1000 → Calls Tryd.prog 8 #[.string x, .string y] W (fun e w' => e = .returned (.bool (cov x y)) ∧ W = w')) := fun W x y hx hy => pcovers_c _ _ W (by unfold maxLen; omega) (by unfold maxLen; omega)
      have HR : Hid (∀ W x y, x.size ≤ 1000 → y.size ≤ 1000 → Calls Tryd.prog 10 #[.string x, .string y] W (fun e w' => e = .returned (.bool (cov x y)) ∧ W = w')) := fun W x y hx hy => rcovers_c _ _ W (by unfold maxLen; omega) (by unfold maxLen; omega)
      have hsa : a.size ≤ 1000 := by omega
      have hsb : b.size ≤ 1000 := by omega
      have HMt := hid (fun W => meet_c a b W hsa hsb)
      clear p1 p2
      cases hab : cov a b with
      | true =>
        rw [hab, if_pos rfl] at HMt
        have hbb : (b.toList == b.toList) = true := by simp
        cases hba : cov b a with
        | true =>
          go_enter Tryd.func4, Tryd.ntmps4
          go_wp2_with (first
            | (go_at_call 9; refine (HMt.out _).mono ?_; rintro e w1 ⟨rfl, hx⟩; have HX := hid hx; clear hx)
            | (go_at_call 10; refine (HR.out _ _ _ ?_ ?_).mono ?_; (· first | exact hsa | exact hsb); (· first | exact hsa | exact hsb); rintro e w' ⟨rfl, rfl⟩))
          go_loopw [10, 11] (fun p i wr => ∃ k : Nat, k ≤ a.size ∧ i = .int .i64 k ∧ p = .string (parTo a k) ∧ wr = w1) (fun _ i _ => a.size - (intOf i).toNat)
          case atStart => exact ⟨0, by omega, rfl, by rw [parTo_zero], rfl⟩
          case round =>
            obtain ⟨k, hk, rfl, rfl, rfl⟩ := hrel
            by_cases hlt : k < a.size
            · have hg := get_toList a k hlt
              by_cases h47 : a[k] = 47
              · have HS := hid (parTo_yes a k (by rw [hg, h47]))
                have hb : ((a[k].toNat : Int) == 47) = true := by rw [h47]; rfl
                clear hg
                go_wp2_with fail
                go_roundw
                case rel => exact ⟨k + 1, by omega, by go_num, by rw [HS.out], trivial⟩
                case measure => simp [intOf]; omega
              · have HS := hid (parTo_no a k (by rw [hg]; simpa using h47))
                have hb : ((a[k].toNat : Int) == 47) = false := by
                  simp only [beq_eq_false_iff_ne, ne_eq]
                  intro h
                  have h5 : a[k].toNat = 47 := by omega
                  exact h47 (UInt8.toNat_inj.1 h5)
                clear hg
                go_wp2_with fail
                go_roundw
                case rel => exact ⟨k + 1, by omega, by go_num, by rw [HS.out], trivial⟩
                case measure => simp [intOf]; omega
            · obtain rfl : k = a.size := by omega
              rw [parTo_all]
              have heq : ((parentK a).toList == (parentK a).toList) = true := by simp
              go_wp2_with (first
                | (go_at_call 7; refine (HA.out _ HX.out).mono ?_; rintro e v2 ⟨rfl, hx⟩; have HX2 := hid (HX.out.trans hx); clear hx)
                | (go_at_call 8; refine (HC.out _ _ _ ?_ ?_).mono ?_; (· first | exact hsa | exact hsb); (· first | exact hsa | exact hsb); rintro e w' ⟨rfl, rfl⟩)
                | (go_at_call 11; refine (parent_c a _ ?_).mono ?_; (· omega); rintro e w' ⟨rfl, rfl⟩))
              go_ret
              exact ⟨rfl, HX2.out⟩
        | false =>
          go_enter Tryd.func4, Tryd.ntmps4
          go_wp2_with (first
            | (go_at_call 9; refine (HMt.out _).mono ?_; rintro e w1 ⟨rfl, hx⟩; have HX := hid hx; clear hx)
            | (go_at_call 10; refine (HR.out _ _ _ ?_ ?_).mono ?_; (· first | exact hsa | exact hsb); (· first | exact hsa | exact hsb); rintro e w' ⟨rfl, rfl⟩))
          go_loopw [10, 11] (fun p i wr => ∃ k : Nat, k ≤ a.size ∧ i = .int .i64 k ∧ p = .string (parTo a k) ∧ wr = w1) (fun _ i _ => a.size - (intOf i).toNat)
          case atStart => exact ⟨0, by omega, rfl, by rw [parTo_zero], rfl⟩
          case round =>
            obtain ⟨k, hk, rfl, rfl, rfl⟩ := hrel
            by_cases hlt : k < a.size
            · have hg := get_toList a k hlt
              by_cases h47 : a[k] = 47
              · have HS := hid (parTo_yes a k (by rw [hg, h47]))
                have hb : ((a[k].toNat : Int) == 47) = true := by rw [h47]; rfl
                clear hg
                go_wp2_with fail
                go_roundw
                case rel => exact ⟨k + 1, by omega, by go_num, by rw [HS.out], trivial⟩
                case measure => simp [intOf]; omega
              · have HS := hid (parTo_no a k (by rw [hg]; simpa using h47))
                have hb : ((a[k].toNat : Int) == 47) = false := by
                  simp only [beq_eq_false_iff_ne, ne_eq]
                  intro h
                  have h5 : a[k].toNat = 47 := by omega
                  exact h47 (UInt8.toNat_inj.1 h5)
                clear hg
                go_wp2_with fail
                go_roundw
                case rel => exact ⟨k + 1, by omega, by go_num, by rw [HS.out], trivial⟩
                case measure => simp [intOf]; omega
            · obtain rfl : k = a.size := by omega
              rw [parTo_all]
              have heq : ((parentK a).toList == (parentK a).toList) = true := by simp
              go_wp2_with (first
                | (go_at_call 7; refine (HA.out _ HX.out).mono ?_; rintro e v2 ⟨rfl, hx⟩; have HX2 := hid (HX.out.trans hx); clear hx)
                | (go_at_call 8; refine (HC.out _ _ _ ?_ ?_).mono ?_; (· first | exact hsa | exact hsb); (· first | exact hsa | exact hsb); rintro e w' ⟨rfl, rfl⟩)
                | (go_at_call 11; refine (parent_c a _ ?_).mono ?_; (· omega); rintro e w' ⟨rfl, rfl⟩))
              go_ret
              exact ⟨rfl, HX2.out⟩
      | false =>
        rw [hab, if_neg (by simp)] at HMt
        cases hba : cov b a with
        | true =>
          rw [hba, if_pos rfl] at HMt
          have hbb : (a.toList == a.toList) = true := by simp
          go_enter Tryd.func4, Tryd.ntmps4
          go_wp2_with (first
            | (go_at_call 9; refine (HMt.out _).mono ?_; rintro e w1 ⟨rfl, hx⟩; have HX := hid hx; clear hx)
            | (go_at_call 10; refine (HR.out _ _ _ ?_ ?_).mono ?_; (· first | exact hsa | exact hsb); (· first | exact hsa | exact hsb); rintro e w' ⟨rfl, rfl⟩))
          go_loopw [10, 11] (fun p i wr => ∃ k : Nat, k ≤ a.size ∧ i = .int .i64 k ∧ p = .string (parTo a k) ∧ wr = w1) (fun _ i _ => a.size - (intOf i).toNat)
          case atStart => exact ⟨0, by omega, rfl, by rw [parTo_zero], rfl⟩
          case round =>
            obtain ⟨k, hk, rfl, rfl, rfl⟩ := hrel
            by_cases hlt : k < a.size
            · have hg := get_toList a k hlt
              by_cases h47 : a[k] = 47
              · have HS := hid (parTo_yes a k (by rw [hg, h47]))
                have hb : ((a[k].toNat : Int) == 47) = true := by rw [h47]; rfl
                clear hg
                go_wp2_with fail
                go_roundw
                case rel => exact ⟨k + 1, by omega, by go_num, by rw [HS.out], trivial⟩
                case measure => simp [intOf]; omega
              · have HS := hid (parTo_no a k (by rw [hg]; simpa using h47))
                have hb : ((a[k].toNat : Int) == 47) = false := by
                  simp only [beq_eq_false_iff_ne, ne_eq]
                  intro h
                  have h5 : a[k].toNat = 47 := by omega
                  exact h47 (UInt8.toNat_inj.1 h5)
                clear hg
                go_wp2_with fail
                go_roundw
                case rel => exact ⟨k + 1, by omega, by go_num, by rw [HS.out], trivial⟩
                case measure => simp [intOf]; omega
            · obtain rfl : k = a.size := by omega
              rw [parTo_all]
              have heq : ((parentK a).toList == (parentK a).toList) = true := by simp
              go_wp2_with (first
                | (go_at_call 7; refine (HA.out _ HX.out).mono ?_; rintro e v2 ⟨rfl, hx⟩; have HX2 := hid (HX.out.trans hx); clear hx)
                | (go_at_call 8; refine (HC.out _ _ _ ?_ ?_).mono ?_; (· first | exact hsa | exact hsb); (· first | exact hsa | exact hsb); rintro e w' ⟨rfl, rfl⟩)
                | (go_at_call 11; refine (parent_c a _ ?_).mono ?_; (· omega); rintro e w' ⟨rfl, rfl⟩))
              go_ret
              exact ⟨rfl, HX2.out⟩
        | false =>
          rw [hba, if_neg (by simp)] at HMt
          go_enter Tryd.func4, Tryd.ntmps4
          go_wp2_with (first
            | (go_at_call 9; refine (HMt.out _).mono ?_; rintro e w1 ⟨rfl, hx⟩; have HX := hid hx; clear hx)
            | (go_at_call 10; refine (HR.out _ _ _ ?_ ?_).mono ?_; (· first | exact hsa | exact hsb); (· first | exact hsa | exact hsb); rintro e w' ⟨rfl, rfl⟩))
          go_loopw [10, 11] (fun p i wr => ∃ k : Nat, k ≤ a.size ∧ i = .int .i64 k ∧ p = .string (parTo a k) ∧ wr = w1) (fun _ i _ => a.size - (intOf i).toNat)
          case atStart => exact ⟨0, by omega, rfl, by rw [parTo_zero], rfl⟩
          case round =>
            obtain ⟨k, hk, rfl, rfl, rfl⟩ := hrel
            by_cases hlt : k < a.size
            · have hg := get_toList a k hlt
              by_cases h47 : a[k] = 47
              · have HS := hid (parTo_yes a k (by rw [hg, h47]))
                have hb : ((a[k].toNat : Int) == 47) = true := by rw [h47]; rfl
                clear hg
                go_wp2_with fail
                go_roundw
                case rel => exact ⟨k + 1, by omega, by go_num, by rw [HS.out], trivial⟩
                case measure => simp [intOf]; omega
              · have HS := hid (parTo_no a k (by rw [hg]; simpa using h47))
                have hb : ((a[k].toNat : Int) == 47) = false := by
                  simp only [beq_eq_false_iff_ne, ne_eq]
                  intro h
                  have h5 : a[k].toNat = 47 := by omega
                  exact h47 (UInt8.toNat_inj.1 h5)
                clear hg
                go_wp2_with fail
                go_roundw
                case rel => exact ⟨k + 1, by omega, by go_num, by rw [HS.out], trivial⟩
                case measure => simp [intOf]; omega
            · obtain rfl : k = a.size := by omega
              rw [parTo_all]
              have heq : ((parentK a).toList == (parentK a).toList) = true := by simp
              go_wp2_with (first
                | (go_at_call 7; refine (HA.out _ HX.out).mono ?_; rintro e v2 ⟨rfl, hx⟩; have HX2 := hid (HX.out.trans hx); clear hx)
                | (go_at_call 8; refine (HC.out _ _ _ ?_ ?_).mono ?_; (· first | exact hsa | exact hsb); (· first | exact hsa | exact hsb); rintro e w' ⟨rfl, rfl⟩)
                | (go_at_call 11; refine (parent_c a _ ?_).mono ?_; (· omega); rintro e w' ⟨rfl, rfl⟩))
              go_ret
              exact ⟨rfl, HX2.out⟩
end Go.Proofs.YtfoafookodldfaaDoor
