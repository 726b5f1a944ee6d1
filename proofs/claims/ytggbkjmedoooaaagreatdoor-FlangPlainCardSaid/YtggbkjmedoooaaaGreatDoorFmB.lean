/-
  The document's Match.
-/
import Derived.Test.YtggbkjmedoooaaaGreatDoorFmA
namespace Go.Proofs.YtggbkjmedoooaaaGreatDoor
set_option linter.unusedSimpArgs false
set_option linter.unusedVariables false
open Go.RowKit

theorem cutsB_eq (n : Int) (r : Rng) : cutsB n r = (decide (0 ≤ n) && decide (n ≤ 200) && decide (r.lo ≤ n) && decide (n ≤ r.hi)) := by
  unfold cutsB cleanR
  rw [Bool.eq_iff_iff]
  simp only [Bool.and_eq_true, decide_eq_true_eq]
  omega
theorem hitB_eq (x : FileI) (c : ClauseI) : hitB x c = (cov c.pre x.p && (x.dead || (decide (0 ≤ x.size) && decide (x.size ≤ 200) && decide (c.lo ≤ x.size) && decide (x.size ≤ c.hi)))) := by
  unfold hitB
  rw [cutsB_eq]
theorem rcoversR_c (p s : ByteArray) (w : World) (hs : s.size ≤ maxLen) (hp : p.size ≤ maxLen) : Calls Tryz.prog 48 #[.string p, .string s] w (Ret (.bool (cov p s)) w) :=
  (rcovers_c p s w hs hp).mono fun e w' hh => ⟨hh.1, by rw [hh.2]; exact Ext.refl _⟩
end Go.Proofs.YtggbkjmedoooaaaGreatDoor
