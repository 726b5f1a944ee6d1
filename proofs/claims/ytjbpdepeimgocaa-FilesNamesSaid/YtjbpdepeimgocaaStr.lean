/-
  Texts in order: plain facts.
-/
import Derived.Test.YtjbpdepeimgocaaBase
import Derived.Sort.Walk0
namespace Go.Proofs.Ytjbpdepeimgocaa
set_option linter.unusedSimpArgs false
set_option linter.unusedVariables false

/-- one text is less than another one -/
def blt (a b : ByteArray) : Bool := Op.bytesLess a.toList b.toList
theorem blt_iff (a b : ByteArray) : blt a b = true ↔ a.toList < b.toList := by unfold blt; rw [bytesLess_eq]; simp
theorem toList_inj {a b : ByteArray} (h : a.toList = b.toList) : a = b := by
  rw [Lib.toList_data, Lib.toList_data] at h
  obtain ⟨⟨la⟩⟩ := a
  obtain ⟨⟨lb⟩⟩ := b
  simp at h
  rw [h]
theorem blt_trans {a b c : ByteArray} (h : blt a b = true) (k : blt b c = true) : blt a c = true := by
  rw [blt_iff] at *
  exact List.lt_trans h k
theorem blt_irrefl (a : ByteArray) : blt a a = false := by
  cases h : blt a a with
  | false => rfl
  | true => rw [blt_iff] at h; exact absurd h (List.lt_irrefl _)
theorem blt_asymm {a b : ByteArray} (h : blt a b = true) : blt b a = false := by
  cases k : blt b a with
  | false => rfl
  | true => have := blt_trans h k; rw [blt_irrefl] at this; cases this
theorem blt_total {a b : ByteArray} (h : blt a b = false) (hne : a ≠ b) : blt b a = true := by
  have h' : ¬ a.toList < b.toList := by rw [← blt_iff, h]; simp
  rw [blt_iff]
  have hle : b.toList ≤ a.toList := List.not_lt.1 h'
  by_cases h : b.toList < a.toList
  · exact h
  · exact absurd (toList_inj (List.le_antisymm hle (List.not_lt.1 h))).symm hne
theorem beq_toList (a b : ByteArray) : (a.toList == b.toList) = decide (a = b) := by
  by_cases h : a = b
  · subst h; simp
  · simp only [h, decide_false, beq_eq_false_iff_ne, ne_eq]
    exact fun e => h (toList_inj e)
theorem gt_blt (a b : ByteArray) : (!Op.bytesLess a.toList b.toList && !a.toList == b.toList) = blt b a := by
  change (!blt a b && !a.toList == b.toList) = blt b a
  rw [beq_toList]
  cases h : blt a b with
  | true => rw [blt_asymm h]; rfl
  | false =>
    by_cases e : a = b
    · subst e; simp [blt_irrefl]
    · simp [e, blt_total h e]
end Go.Proofs.Ytjbpdepeimgocaa
