/-
  A normal form's clauses may be. Plain.
-/
import Derived.Test.YtggbkjmedoooaaaGreatDoorQdF
import Derived.Test.YtggbkjmedoooaaaGreatDoorQdD
namespace Go.Proofs.YtggbkjmedoooaaaGreatDoor
set_option linter.unusedSimpArgs false
set_option linter.unusedVariables false
open Go.RowKit Go.Sort

theorem norm_right {f : List ClauseI} (h : ∀ c ∈ f, rightC c = true) : ∀ c ∈ normF f, rightC c = true := by
  intro c hc
  unfold normF normL at hc
  obtain ⟨p, hp, hc⟩ := List.mem_flatMap.1 hc
  obtain ⟨r, hr, rfl⟩ := List.mem_map.1 hc
  obtain ⟨c0, h0, rfl⟩ := (mem_preS f p).1 hp
  have h1 := rightC_pre (h c0 h0)
  have h2 := (ownF_is f c0.pre).1.ok r hr
  unfold Ok1 at h2
  unfold rightC mkC
  simp only [Bool.and_eq_true, Bool.or_eq_true, List.isEmpty_iff, decide_eq_true_eq]
  refine ⟨h1, ?_⟩
  omega
/-- The plain text. -/
noncomputable def plainF (f : List ClauseI) : ByteArray := if (normF f).length ≤ 8 then textF (normF f) else textF f
theorem right_light {f : List ClauseI} (h : ∀ c ∈ f, rightC c = true) : ∀ c ∈ f, c.pre.size ≤ 40 := by
  intro c hc
  rcases rightC_pre (h c hc) with h1 | h1
  · have : c.pre.size = 0 := by rw [← size_toList, h1]; rfl
    omega
  · unfold Pa.rightK at h1
    simp only [Bool.and_eq_true, decide_eq_true_eq] at h1
    exact h1.1.2
theorem firstK_right : ∀ {f : List ClauseI}, firstK f = 0 ↔ ∀ c ∈ f, rightC c = true
  | [] => by simp [firstK]
  | c :: f => by
    unfold firstK
    by_cases h : mayK c = 0
    · rw [if_pos h, firstK_right (f := f)]
      have := (mayK_zero c).1 h
      simp [this]
    · rw [if_neg h]
      have h1 : rightC c ≠ true := fun e => h ((mayK_zero c).2 e)
      constructor
      · intro e; exact absurd e h
      · intro e; exact absurd (e c (by simp)) h1
theorem checkF_right {f : List ClauseI} : checkF f = 0 ↔ (∀ c ∈ f, rightC c = true) ∧ f.length ≤ 8 := by
  unfold checkF
  by_cases h : 8 < f.length
  · rw [if_pos h]
    constructor
    · intro e; cases e
    · intro e; omega
  · rw [if_neg h, firstK_right]
    exact ⟨fun e => ⟨e, by omega⟩, fun e => e.1⟩
end Go.Proofs.YtggbkjmedoooaaaGreatDoor
