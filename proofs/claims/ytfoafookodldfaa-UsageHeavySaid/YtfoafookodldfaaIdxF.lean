/-
  Package index: which names begin so, which are covered.
-/
import Derived.Test.YtfoafookodldfaaIdxE
namespace Go.Proofs.Ytfoafookodldfaa
set_option linter.unusedSimpArgs false
set_option linter.unusedVariables false
open Go.RowKit

/-- the text begins so -/
def hpre (t p : ByteArray) : Bool := decide (p.size ≤ t.size) && ((t.extract 0 p.size).toList == p.toList)
set_option maxHeartbeats 1000000 in
theorem shas_c (t p : ByteArray) (w : World) (ht : t.size ≤ maxLen) (hp : p.size ≤ maxLen) : Calls Try.prog 51 #[.string t, .string p] w (fun e w' => e = .returned (.bool (hpre t p)) ∧ w = w') := by
  unfold hpre
  unfold maxLen at ht hp
  go_enter Try.func51, Try.ntmps51
  go_wp2
  all_goals go_ret
  all_goals simp_all
  all_goals (intros; omega)
set_option maxHeartbeats 1000000 in
theorem has_c (t p : ByteArray) (w : World) (ht : t.size ≤ maxLen) (hp : p.size ≤ maxLen) : Calls Try.prog 42 #[.string t, .string p] w (fun e w' => e = .returned (.bool (hpre t p)) ∧ w = w') := by
  go_enter Try.func42, Try.ntmps42
  go_wp2_with (go_at_call 51; refine (shas_c _ _ _ ht hp).mono ?_; rintro e w' ⟨rfl, rfl⟩)
  go_ret
  exact ⟨rfl, rfl⟩

/-- one path covers another one -/
def cov (p s : ByteArray) : Bool := p.toList.isEmpty || (s.toList == p.toList) || hpre s (p ++ ⟨#[47]⟩)
set_option maxHeartbeats 1000000 in
theorem pcovers_c (p s : ByteArray) (w : World) (hs : s.size ≤ maxLen) (hp : p.size + 1 ≤ maxLen) : Calls Try.prog 45 #[.string p, .string s] w (fun e w' => e = .returned (.bool (cov p s)) ∧ w = w') := by
  unfold cov
  have hq : (p ++ ⟨#[47]⟩ : ByteArray).size ≤ maxLen := by rw [ByteArray.size_append]; exact hp
  have hp' : p.size + 1 ≤ 9223372036854775807 := by unfold maxLen at hp; omega
  go_enter Try.func45, Try.ntmps45
  go_wp2_with (go_at_call 42; refine (has_c _ _ _ hs hq).mono ?_; rintro e w' ⟨rfl, rfl⟩)
  all_goals go_ret
  all_goals simp_all

set_option maxHeartbeats 400000 in
theorem under1_c (x s : ByteArray) (q : Nat) (w : World) (hq : w.cell? ⟨q, 0, none⟩ = some (.string s)) (hx : x.size ≤ maxLen) (hs : s.size ≤ maxLen) :
    Calls Try.prog 41 #[.string x, .pointer (some ⟨q, 0, none⟩)] w (Ret (.bool (hpre x s)) w) := by
  go_enter Try.func41, Try.ntmps41
  go_wp2_with (go_at_call 42; refine (has_c _ _ _ hx hs).mono ?_; rintro e w' ⟨rfl, rfl⟩)
  go_ret
  exact ⟨rfl, Ext.refl _⟩
set_option maxHeartbeats 400000 in
theorem begins1_c (x s : ByteArray) (q : Nat) (w : World) (hq : w.cell? ⟨q, 0, none⟩ = some (.string s)) (hx : x.size ≤ maxLen) (hs : s.size ≤ maxLen) :
    Calls Try.prog 46 #[.string x, .pointer (some ⟨q, 0, none⟩)] w (Ret (.bool (hpre x s)) w) := by
  go_enter Try.func46, Try.ntmps46
  go_wp2_with (go_at_call 42; refine (has_c _ _ _ hx hs).mono ?_; rintro e w' ⟨rfl, rfl⟩)
  go_ret
  exact ⟨rfl, Ext.refl _⟩
set_option maxHeartbeats 400000 in
theorem under2_c (x s : ByteArray) (q : Nat) (w : World) (hq : w.cell? ⟨q, 0, none⟩ = some (.string s)) (hx : x.size ≤ maxLen) (hs : s.size + 1 ≤ maxLen) :
    Calls Try.prog 44 #[.string x, .pointer (some ⟨q, 0, none⟩)] w (Ret (.bool (cov s x)) w) := by
  go_enter Try.func44, Try.ntmps44
  go_wp2_with (go_at_call 45; refine (pcovers_c _ _ _ hx hs).mono ?_; rintro e w' ⟨rfl, rfl⟩)
  go_ret
  exact ⟨rfl, Ext.refl _⟩
end Go.Proofs.Ytfoafookodldfaa
