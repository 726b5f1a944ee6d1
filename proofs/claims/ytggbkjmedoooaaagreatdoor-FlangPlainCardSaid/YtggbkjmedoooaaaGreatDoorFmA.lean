/-
  filter.Match.
-/
import Derived.Test.YtggbkjmedoooaaaGreatDoorShA
import Derived.Test.YtggbkjmedoooaaaGreatDoorCov
namespace Go.Proofs.YtggbkjmedoooaaaGreatDoor
set_option linter.unusedSimpArgs false
set_option linter.unusedVariables false
open Go.RowKit

structure ClauseI where
  pre : ByteArray
  lo : Int
  hi : Int
def ClauseI.cells (c : ClauseI) : List Value := [.string c.pre, .int .i64 c.lo, .int .i64 c.hi]
def ClauseI.val (c : ClauseI) : Value := .agg #[.string c.pre, .int .i64 c.lo, .int .i64 c.hi]
theorem clause_coded : Coded ClauseI.cells 3 := ⟨fun _ => rfl, fun a u hu => by simp [ClauseI.cells] at hu; rcases hu with rfl | rfl | rfl <;> rfl⟩
structure FileI where
  p : ByteArray
  size : Int
  dead : Bool
def FileI.val (x : FileI) : Value := .agg #[.string x.p, .int .i64 x.size, .bool x.dead]
/-- Does a clause take a file? -/
def hitB (x : FileI) (c : ClauseI) : Bool := cov c.pre x.p && (x.dead || cutsB x.size ⟨c.lo, c.hi⟩)
def LightF (f : List ClauseI) : Prop := ∀ c ∈ f, c.pre.size ≤ 100
end Go.Proofs.YtggbkjmedoooaaaGreatDoor
