/-
  The newest of some stamps: plain facts.
-/
import Derived.Test.YtelgkfempikenaaVersD
namespace Go.Proofs.Ytelgkfempikenaa
set_option linter.unusedSimpArgs false
set_option linter.unusedVariables false

theorem Ver.lt_irrefl (a : Ver) : a.lt a = false := by simp [Ver.lt]
theorem Stamp.lt_iff (a b : Stamp) : a.lt b = true ↔ (a.time < b.time ∨ (a.time = b.time ∧ (a.v.by_ < b.v.by_ ∨ (a.v.by_ = b.v.by_ ∧ a.v.n < b.v.n)))) := by
  unfold Stamp.lt Ver.lt
  split <;> simp <;> omega
theorem cmpStamp_neg (a b : Stamp) : cmpStamp a b < 0 ↔ a.lt b = true := by
  rw [Stamp.lt_iff]
  simp only [cmpStamp, orI, cmpI]
  by_cases h1 : a.time < b.time <;> by_cases h2 : b.time < a.time <;> by_cases h3 : a.v.by_ < b.v.by_ <;> by_cases h4 : b.v.by_ < a.v.by_ <;> by_cases h5 : a.v.n < b.v.n <;> by_cases h6 : b.v.n < a.v.n <;> simp [h1, h2, h3, h4, h5, h6] <;> omega
theorem cmpStamp_cases (a b : Stamp) : (a.lt b = true ∧ cmpStamp a b = -1) ∨ (a.lt b = false ∧ eq3 a.v.by_ a.v.n a.time b.v.by_ b.v.n b.time = false ∧ cmpStamp a b = 1) ∨ (a.lt b = false ∧ eq3 a.v.by_ a.v.n a.time b.v.by_ b.v.n b.time = true ∧ cmpStamp a b = 0) := by
  have hl : ∀ x : Bool, x = false ↔ ¬ x = true := by decide
  rw [hl, hl (eq3 ..), Stamp.lt_iff]
  simp only [cmpStamp, orI, cmpI, eq3, decide_eq_true_eq]
  by_cases h1 : a.time < b.time <;> by_cases h2 : b.time < a.time <;> by_cases h3 : a.v.by_ < b.v.by_ <;> by_cases h4 : b.v.by_ < a.v.by_ <;> by_cases h5 : a.v.n < b.v.n <;> by_cases h6 : b.v.n < a.v.n <;> simp [h1, h2, h3, h4, h5, h6] <;> omega

theorem Stamp.ext3 {a b : Stamp} (h1 : a.v.by_ = b.v.by_) (h2 : a.v.n = b.v.n) (h3 : a.time = b.time) : a = b := by
  obtain ⟨⟨a1, a2⟩, a3⟩ := a
  obtain ⟨⟨b1, b2⟩, b3⟩ := b
  simp only at h1 h2 h3
  subst h1 h2 h3
  rfl
theorem eq3_iff (a b : Stamp) : eq3 a.v.by_ a.v.n a.time b.v.by_ b.v.n b.time = true ↔ a = b := by
  simp only [eq3, decide_eq_true_eq]
  exact ⟨fun ⟨h1, h2, h3⟩ => Stamp.ext3 h1 h2 h3, fun h => by subst h; simp⟩

/-- the newest of some is one of them, and none is newer -/
theorem newest_spec (l : List Stamp) (h : 0 < l.length) : newestK l ∈ l ∧ ∀ x ∈ l, (newestK l).lt x = false := by
  have key : ∀ n, n ≤ l.length → 0 < n → newestK (l.take n) ∈ l.take n ∧ ∀ x ∈ l.take n, (newestK (l.take n)).lt x = false := by
    intro n
    induction n with
    | zero => intro _ h; omega
    | succ n ih =>
      intro hn _
      have hlt : n < l.length := by omega
      rw [newest_take l n hlt, List.take_succ_eq_append_getElem hlt]
      have e0 : ∀ x y, takeNew false x y = y := fun x y => by simp [takeNew]
      have e1 : ∀ x y : Stamp, takeNew true x y = if x.lt y = true then y else x := fun x y => by simp [takeNew, cmpStamp_neg]
      by_cases h0 : n = 0
      · subst h0
        have hd : decide (0 < 0) = false := by decide
        rw [hd, e0, List.take_zero, List.nil_append]
        refine ⟨List.mem_singleton.2 rfl, fun x hx => ?_⟩
        rw [List.mem_singleton.1 hx]
        cases hx : l[0].lt l[0] with
        | false => rfl
        | true => rw [Stamp.lt_iff] at hx; omega
      · obtain ⟨i1, i2⟩ := ih (by omega) (by omega)
        have hd : decide (0 < n) = true := by simp; omega
        rw [hd, e1]
        generalize l.take n = t at i1 i2 ⊢
        generalize l[n] = y
        by_cases hc : (newestK t).lt y = true
        · rw [if_pos hc]
          refine ⟨List.mem_append.2 (.inr (List.mem_singleton.2 rfl)), fun x hx => ?_⟩
          cases hx' : y.lt x with
          | false => rfl
          | true =>
            rcases List.mem_append.1 hx with hx | hx
            · have h3 := i2 x hx
              have : (newestK t).lt x = true := by
                rw [Stamp.lt_iff] at hc hx' ⊢
                omega
              rw [this] at h3; cases h3
            · rw [List.mem_singleton.1 hx, Stamp.lt_iff] at hx'; omega
        · rw [if_neg hc]
          refine ⟨List.mem_append.2 (.inl i1), fun x hx => ?_⟩
          rcases List.mem_append.1 hx with hx | hx
          · exact i2 x hx
          · rw [List.mem_singleton.1 hx]
            simpa using hc
  have := key l.length (Nat.le_refl _) h
  rwa [List.take_length] at this
end Go.Proofs.Ytelgkfempikenaa
