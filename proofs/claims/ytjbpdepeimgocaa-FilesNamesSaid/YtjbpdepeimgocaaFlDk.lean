/-
  A number's digits; the name behind another one: the document's and the package's.
-/
import Derived.Test.YtjbpdepeimgocaaQaD
import Derived.Laws.BytesString
namespace Go.Proofs.Ytjbpdepeimgocaa
set_option linter.unusedSimpArgs false
set_option linter.unusedVariables false
open Go.RowKit Go.Sort

/-- a digit's byte -/
def dgB (n : Nat) : UInt8 := UInt8.ofNat (48 + n)
theorem nil_append (s : ByteArray) : (⟨#[]⟩ : ByteArray) ++ s = s := by
  apply ByteArray.ext
  rw [ByteArray.data_append]; simp
def digK (n : Nat) : ByteArray := if h : n < 10 then ⟨#[dgB n]⟩ else digK (n / 10) ++ ⟨#[dgB (n % 10)]⟩
termination_by n
decreasing_by omega
theorem digK_small {n : Nat} (h : n < 10) : digK n = ⟨#[dgB n]⟩ := by rw [digK, dif_pos h]
theorem digK_big {n : Nat} (h : ¬ n < 10) : digK n = digK (n / 10) ++ ⟨#[dgB (n % 10)]⟩ := by rw [digK, dif_neg h]
theorem digK_size : ∀ (d n : Nat), n < 10 ^ (d + 1) → (digK n).size ≤ d + 1
  | 0, n, h => by rw [digK_small (by simpa using h)]; exact Nat.le_refl _
  | d + 1, n, h => by
    by_cases hn : n < 10
    · rw [digK_small hn]; show 1 ≤ _; omega
    · rw [digK_big hn, ByteArray.size_append]
      have := digK_size d (n / 10) (by rw [Nat.pow_succ] at h; omega)
      have e : (⟨#[dgB (n % 10)]⟩ : ByteArray).size = 1 := rfl
      omega
theorem digK_20 (n : Nat) (h : n ≤ 9223372036854775807) : (digK n).size ≤ 20 := digK_size 19 n (by
  have : (10 : Nat) ^ (19 + 1) = 100000000000000000000 := by decide
  omega)
end Go.Proofs.Ytjbpdepeimgocaa
