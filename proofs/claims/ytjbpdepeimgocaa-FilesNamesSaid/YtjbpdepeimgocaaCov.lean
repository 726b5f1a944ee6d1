/-
  Paths: Covers, the document's Covers (out of XPaA).
-/
import Derived.Test.YtjbpdepeimgocaaProg
import Derived.Test.YtjbpdepeimgocaaBase
import Derived.Test.YtjbpdepeimgocaaStr
namespace Go.Proofs.Ytjbpdepeimgocaa
set_option linter.unusedSimpArgs false
set_option linter.unusedVariables false
open Go.RowKit

/-- the text begins so -/
def hpre (t p : ByteArray) : Bool := decide (p.size ≤ t.size) && ((t.extract 0 p.size).toList == p.toList)
/-- one path covers another one -/
def cov (p s : ByteArray) : Bool := p.toList.isEmpty || (s.toList == p.toList) || hpre s (p ++ ⟨#[47]⟩)
theorem extract_toList (t : ByteArray) (n : Nat) : (t.extract 0 n).toList = t.toList.take n := by
  rw [Lib.toList_data, Lib.toList_data, ByteArray.data_extract, Array.toList_extract, List.extract_eq_take_drop, List.drop_zero, Nat.sub_zero]
theorem size_toList (t : ByteArray) : t.toList.length = t.size := by
  rw [Lib.toList_data, Array.length_toList]; rfl
theorem hpre_iff (t p : ByteArray) : hpre t p = true ↔ p.toList <+: t.toList := by
  unfold hpre
  rw [extract_toList, Bool.and_eq_true, decide_eq_true_eq, beq_iff_eq, ← size_toList p, ← size_toList t]
  constructor
  · rintro ⟨_, h⟩
    rw [← h]
    exact List.take_prefix _ _
  · intro h
    exact ⟨h.length_le, (List.prefix_iff_eq_take.1 h).symm⟩
theorem cov_iff (p s : ByteArray) : cov p s = true ↔ p.toList = [] ∨ s.toList = p.toList ∨ (p.toList ++ [47]) <+: s.toList := by
  have e : (p ++ ⟨#[47]⟩ : ByteArray).toList = p.toList ++ [47] := by
    rw [Lib.toList_data, Lib.toList_data, ByteArray.data_append, Array.toList_append]
  unfold cov
  rw [Bool.or_eq_true, Bool.or_eq_true, hpre_iff, e, List.isEmpty_iff, beq_iff_eq]
  constructor
  · rintro ((h | h) | h)
    · exact .inl h
    · exact .inr (.inl h)
    · exact .inr (.inr h)
  · rintro (h | h | h)
    · exact .inl (.inl h)
    · exact .inl (.inr h)
    · exact .inr h
theorem cov_trans {p q t : ByteArray} (h1 : cov p q = true) (h2 : cov q t = true) : cov p t = true := by
  rw [cov_iff] at *
  rcases h1 with h1 | h1 | h1
  · exact .inl h1
  · rw [h1] at h2; exact h2
  · rcases h2 with h2 | h2 | h2
    · rw [h2] at h1
      have := h1.length_le
      simp at this
    · rw [h2]; exact .inr (.inr h1)
    · exact .inr (.inr (h1.trans ((List.prefix_append _ _).trans h2)))
theorem snoc_pre {P S : List UInt8} {c : UInt8} : (P ++ [c]) <+: S ↔ S.take P.length = P ∧ S[P.length]? = some c := by
  constructor
  · rintro ⟨t, rfl⟩
    rw [List.append_assoc]
    exact ⟨List.take_left, by simp⟩
  · rintro ⟨h1, h2⟩
    obtain ⟨hlt, h3⟩ := List.getElem?_eq_some_iff.1 h2
    have h4 : S.take (P.length + 1) = P ++ [c] := by rw [List.take_succ_eq_append_getElem hlt, h1, h3]
    rw [← h4]
    exact List.take_prefix _ _
theorem get_toList (s : ByteArray) (i : Nat) (h : i < s.size) : s.toList[i]? = some s[i] := by
  rw [Lib.toList_data, Array.getElem?_toList]
  exact Array.getElem?_eq_getElem h
theorem cov_slash (p s : ByteArray) : hpre s (p ++ ⟨#[47]⟩) = true ↔ (s.extract 0 p.size).toList = p.toList ∧ s.toList[p.size]? = some 47 := by
  rw [hpre_iff, extract_toList]
  have e : (p ++ ⟨#[47]⟩ : ByteArray).toList = p.toList ++ [47] := by
    rw [Lib.toList_data, Lib.toList_data, ByteArray.data_append, Array.toList_append]
  rw [e, snoc_pre, size_toList]
theorem cov_of_empty {p s : ByteArray} (h : p.toList.isEmpty = true ∨ (p.toList == s.toList) = true) : cov p s = true := by
  unfold cov
  rcases h with h | h
  · rw [h]; rfl
  · rw [show (s.toList == p.toList) = true by simp at h ⊢; exact h.symm]; simp
theorem cov_no {p s : ByteArray} (h1 : p.toList.isEmpty = false) (h2 : (p.toList == s.toList) = false) : cov p s = hpre s (p ++ ⟨#[47]⟩) := by
  unfold cov
  rw [h1, show (s.toList == p.toList) = false by simp at h2 ⊢; exact fun h => h2 h.symm]
  rfl
theorem cov_at {p s : ByteArray} (h1 : p.toList.isEmpty = false) (h2 : (p.toList == s.toList) = false) (h3 : p.size < s.size) (h4 : (s.extract 0 p.size).toList = p.toList) : cov p s = ((s[p.size].toNat : Int) == 47) := by
  rw [cov_no h1 h2, Bool.eq_iff_iff, cov_slash, get_toList s _ h3]
  simp only [h4, true_and, Option.some.injEq, beq_iff_eq]
  constructor
  · intro h; rw [h]; rfl
  · intro h
    have h5 : s[p.size].toNat = 47 := by omega
    exact UInt8.toNat_inj.1 h5
theorem cov_off {p s : ByteArray} (h1 : p.toList.isEmpty = false) (h2 : (p.toList == s.toList) = false) (h3 : ¬ p.size < s.size ∨ ¬ (s.extract 0 p.size).toList = p.toList) : cov p s = false := by
  rw [cov_no h1 h2]
  cases hh : hpre s (p ++ ⟨#[47]⟩) with
  | false => rfl
  | true =>
    obtain ⟨a1, a2⟩ := (cov_slash p s).1 hh
    rcases h3 with h3 | h3
    · have := (List.getElem?_eq_some_iff.1 a2).1
      rw [size_toList] at this
      exact absurd this h3
    · exact absurd a1 h3
end Go.Proofs.Ytjbpdepeimgocaa
