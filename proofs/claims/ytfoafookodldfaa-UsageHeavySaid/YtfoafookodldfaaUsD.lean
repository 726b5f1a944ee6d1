/-
  path.Parent.
-/
import Derived.Test.YtfoafookodldfaaUsC
namespace Go.Proofs.Ytfoafookodldfaa
set_option linter.unusedSimpArgs false
set_option linter.unusedVariables false
open Go.RowKit

/-- the last place of a slash below k (or -1) -/
def lastK (s : ByteArray) : Nat → Int
  | 0 => -1
  | k + 1 => if s.toList[k]? = some 47 then (k : Int) else lastK s k
set_option maxRecDepth 100000 in
set_option maxHeartbeats 1000000 in
theorem lastb_c (s : ByteArray) (w : World) (hs : s.size ≤ 100000) : Calls Try.prog 55 #[.string s, .int .u8 47] w (fun e w' => e = .returned (.int .i64 (lastK s s.size)) ∧ w = w') := by
  go_enter Try.func55, Try.ntmps55
  go_wp2_with fail
  go_loopw [5] (fun i wr => ∃ (k : Nat) (z : Int), k ≤ s.size ∧ i = .int .i64 z ∧ z = (k : Int) - 1 ∧ lastK s s.size = lastK s k ∧ wr = w) (fun i _ => (intOf i + 1).toNat)
  case atStart => exact ⟨s.size, _, Nat.le_refl _, rfl, rfl, rfl, rfl⟩
  case round =>
    obtain ⟨k, z, hk, rfl, hz, hL, rfl⟩ := hrel
    cases k with
    | succ m =>
      obtain rfl : z = (m : Int) := by omega
      have hm : m < s.size := by omega
      have hg := get_toList s m hm
      have hstep : lastK s (m + 1) = if s.toList[m]? = some 47 then (m : Int) else lastK s m := rfl
      rw [hg] at hstep
      by_cases h47 : s[m] = 47
      · rw [if_pos (by rw [h47])] at hstep
        have HL : Hid (lastK s s.size = (m : Int)) := hL.trans hstep
        have hb : ((s[m].toNat : Int) == 47) = true := by rw [h47]; rfl
        clear hL hstep hg hz
        go_wp2_with fail
        go_ret
        exact ⟨by rw [HL.out]; rfl, rfl⟩
      · rw [if_neg (by simpa using h47)] at hstep
        have hb : ((s[m].toNat : Int) == 47) = false := by
          simp only [beq_eq_false_iff_ne, ne_eq]
          intro h
          have h5 : s[m].toNat = 47 := by omega
          exact h47 (UInt8.toNat_inj.1 h5)
        have HL : Hid (lastK s s.size = lastK s m) := hL.trans hstep
        clear hL hstep hg hz
        go_wp2_with fail
        go_roundw
        case rel => exact ⟨m, (m : Int) - 1, by omega, by go_num, rfl, HL.out, trivial⟩
        case measure => simp [intOf]
    | zero =>
      have hz0 : decide ((0 : Int) ≤ z) = false := by simp; omega
      have HL : Hid (lastK s s.size = -1) := hL
      clear hz hL
      go_wp2_with fail
      go_ret
      exact ⟨by rw [HL.out]; rfl, rfl⟩

set_option maxRecDepth 100000 in
set_option maxHeartbeats 1000000 in
theorem last_c (s : ByteArray) (w : World) (hs : s.size ≤ 100000) : Calls Try.prog 54 #[.string s, .string ⟨#[47]⟩] w (fun e w' => e = .returned (.int .i64 (lastK s s.size)) ∧ w = w') := by
  go_enter Try.func54, Try.ntmps54
  go_wp2_with (go_at_call 55; refine (lastb_c _ _ hs).mono ?_; rintro e w' ⟨rfl, rfl⟩)
  go_ret
  exact ⟨rfl, rfl⟩
theorem lastK_bounds (s : ByteArray) : ∀ k, -1 ≤ lastK s k ∧ lastK s k < k
  | 0 => ⟨by simp [lastK], by simp [lastK]⟩
  | k + 1 => by
    have := lastK_bounds s k
    unfold lastK
    split
    · constructor <;> omega
    · constructor <;> omega
/-- all ahead of the last name -/
def parentK (s : ByteArray) : ByteArray := s.extract 0 (lastK s s.size).toNat
set_option maxRecDepth 100000 in
set_option maxHeartbeats 1000000 in
theorem parent_c (s : ByteArray) (w : World) (hs : s.size ≤ 100000) : Calls Try.prog 52 #[.string s] w (fun e w' => e = .returned (.string (parentK s)) ∧ w = w') := by
  have HL := hid (last_c s w hs)
  obtain ⟨b1, b2⟩ := lastK_bounds s s.size
  unfold parentK
  generalize lastK s s.size = z at HL b1 b2
  have e : max z 0 = (z.toNat : Int) := by omega
  have hz : z.toNat ≤ s.size := by omega
  clear b1 b2
  generalize hzn : z.toNat = j at e hz
  clear hzn
  go_enter Try.func52, Try.ntmps52
  go_wp2_with (go_at_call 54; refine (HL.out).mono ?_; rintro e' w' ⟨rfl, rfl⟩)
  go_ret
  exact ⟨rfl, rfl⟩
end Go.Proofs.Ytfoafookodldfaa
