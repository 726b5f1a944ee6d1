/-
  Texts in rows (out of XPaA).
-/
import Derived.Test.YtgkdiknmjgpgmaaGreatDoorCov
namespace Go.Proofs.YtgkdiknmjgpgmaaGreatDoor.Pa
open Go.RowKit

theorem nil_toList : (⟨#[]⟩ : ByteArray).toList = [] := by rw [Lib.toList_data]
theorem extract_zero (s : ByteArray) : s.extract 0 0 = ⟨#[]⟩ := toList_inj (by rw [extract_toList, nil_toList]; rfl)
theorem empty_iff (s : ByteArray) : s.toList.isEmpty = true ↔ s = ⟨#[]⟩ := by
  constructor
  · intro h
    refine toList_inj ?_
    rw [nil_toList]
    simpa using h
  · rintro rfl; rw [nil_toList]; rfl
def Strs (l : List ByteArray) : List (List Value) := l.map fun s => [.string s]
theorem sl_str {w : World} {v : Value} {l : List ByteArray} (h : Sl w 1 v (Strs l)) : ∃ A c, v = .slice A l.length c ∧ l.length ≤ c ∧ c ≤ maxLen ∧ (0 < l.length → ∃ b o, A = some ⟨b, o, none⟩ ∧ b < w.heap.size ∧ ∀ k (h : k < l.length), w.cell? ⟨b, o + k, none⟩ = some (.string l[k])) := by
  obtain ⟨A, c, h1, h2, h3, h4⟩ := h
  simp only [Strs, List.length_map] at h1 h2 h4
  refine ⟨A, c, h1, h2, h3, fun hn => ?_⟩
  obtain ⟨b, o, h5, h6, h7⟩ := h4 hn
  refine ⟨b, o, h5, h6, fun k hk => ?_⟩
  have := h7 k [.string l[k]] 0 _ (by simp [hk]) rfl
  simpa using this
end Go.Proofs.YtgkdiknmjgpgmaaGreatDoor.Pa
