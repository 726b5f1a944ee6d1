/-
  sizes.Holds (out of XSzA, XSzE).
-/
import Derived.Test.YtggbkjmedoooaaaGreatDoorProg
import Derived.Test.YtggbkjmedoooaaaGreatDoorRow
import Derived.Test.YtggbkjmedoooaaaGreatDoorSzP
namespace Go.Proofs.YtggbkjmedoooaaaGreatDoor
set_option linter.unusedSimpArgs false
set_option linter.unusedVariables false
open Go.RowKit

theorem rng_coded : Coded Rng.cells 2 := ⟨fun _ => rfl, fun a u hu => by simp [Rng.cells] at hu; rcases hu with rfl | rfl <;> rfl⟩
set_option maxHeartbeats 400000 in
theorem clean_c (r : Rng) (w : World) : Calls Tryz.prog 78 #[r.val] w (Ret (cleanR r).val w) := by
  unfold Rng.val cleanR
  go_enter Tryz.func78, Tryz.ntmps78
  go_wp2_with fail
  exact bodyPost_ret (v := .agg #[.int .i64 (max r.lo 0), .int .i64 (min r.hi 200)]) (by simp [results, Tryz.results78, go_sem]) rfl ⟨rfl, ((Ext.refl _).alloc' _).alloc' _⟩
def cutsB (n : Int) (r : Rng) : Bool := decide ((cleanR r).lo ≤ n) && decide (n ≤ (cleanR r).hi)
theorem lit_row {α : Type} {code : α → List Value} {sz : Nat} (hc : Coded code sz) {w : World} {n : Nat} (e : TypeId) (l : List α) (cs : Array Value) (hcs : cs = ((l.map code).flatten).toArray) (hn : l.length = n) (hm : n ≤ maxLen) : Sl (w.alloc (.cells cs e)) sz (.slice (some ⟨w.heap.size, 0, none⟩) n n) (l.map code) :=
  Sl.of_flat (Blk.new w e cs) ⟨[], by rw [hcs]; simp⟩ (hc.sizes l) (by simpa using hn) (Nat.le_refl _) hm
end Go.Proofs.YtggbkjmedoooaaaGreatDoor
