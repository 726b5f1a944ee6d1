/-
  The document's Name of an item behind another one; put; View of nothing.
-/
import Derived.Test.YtjbpdepeimgocaaFlDk
namespace Go.Proofs.Ytjbpdepeimgocaa
set_option linter.unusedSimpArgs false
set_option linter.unusedVariables false
open Go.RowKit Go.Sort

def okV (v : Ver) : Prop := v.by_ ≤ 9223372036854775807 ∧ v.n ≤ 9223372036854775807
def nameK (p : ByteArray) (it : Ver) : ByteArray := (((p ++ ⟨#[126]⟩) ++ digK it.by_.toNat) ++ ⟨#[46]⟩) ++ digK it.n.toNat
theorem nameK_size (p : ByteArray) (it : Ver) (h : okV it) : (nameK p it).size ≤ p.size + 42 := by
  have h1 := digK_20 it.by_.toNat (by unfold okV at h; omega)
  have h2 := digK_20 it.n.toNat (by unfold okV at h; omega)
  unfold nameK
  rw [ByteArray.size_append, ByteArray.size_append, ByteArray.size_append, ByteArray.size_append]
  have e1 : (⟨#[126]⟩ : ByteArray).size = 1 := rfl
  have e2 : (⟨#[46]⟩ : ByteArray).size = 1 := rfl
  omega
end Go.Proofs.Ytjbpdepeimgocaa
