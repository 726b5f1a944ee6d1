/-
  Updates and metas; vers.Check, CheckStamp; the document's Right of a version (for seats without vers.Sort; out of UpA, UpE, UpC).
-/
import Derived.Test.YtanflgipdiogaaaDoorProg
import Derived.Test.YtanflgipdiogaaaDoorRow
import Derived.Test.YtanflgipdiogaaaDoorUqV
namespace Go.Proofs.YtanflgipdiogaaaDoor
set_option linter.unusedSimpArgs false
set_option linter.unusedVariables false
open Go.RowKit

structure UpdI where
  item : Ver
  st : Stamp
  p : ByteArray
  d : ByteArray
  dead : Bool
def UpdI.cells (u : UpdI) : List Value := [.int .i64 u.item.by_, .int .i64 u.item.n, .int .i64 u.st.v.by_, .int .i64 u.st.v.n, .int .i64 u.st.time, .string u.p, .string u.d, .bool u.dead]
def UpdI.val (u : UpdI) : Value := .agg #[.int .i64 u.item.by_, .int .i64 u.item.n, .int .i64 u.st.v.by_, .int .i64 u.st.v.n, .int .i64 u.st.time, .string u.p, .string u.d, .bool u.dead]
theorem upd_coded : Coded UpdI.cells 8 := ⟨fun _ => rfl, fun a u hu => by simp [UpdI.cells] at hu; rcases hu with rfl | rfl | rfl | rfl | rfl | rfl | rfl | rfl <;> rfl⟩
def upd0 : UpdI := ⟨⟨0, 0⟩, ⟨⟨0, 0⟩, 0⟩, ⟨#[]⟩, ⟨#[]⟩, false⟩
instance : DecidableEq Stamp := fun a b => if h : a.v = b.v ∧ a.time = b.time then isTrue (by cases a; cases b; simp_all) else isFalse (by rintro rfl; exact h ⟨rfl, rfl⟩)
instance : DecidableEq UpdI := fun a b => if h : a.item = b.item ∧ a.st = b.st ∧ a.p = b.p ∧ a.d = b.d ∧ a.dead = b.dead then isTrue (by cases a; cases b; simp_all) else isFalse (by rintro rfl; exact h ⟨rfl, rfl, rfl, rfl, rfl⟩)
structure MetaI where
  item : Ver
  st : Stamp
  p : ByteArray
  size : Int
  dead : Bool
def MetaI.val (u : MetaI) : Value := .agg #[.int .i64 u.item.by_, .int .i64 u.item.n, .int .i64 u.st.v.by_, .int .i64 u.st.v.n, .int .i64 u.st.time, .string u.p, .int .i64 u.size, .bool u.dead]
def rightS (s : Stamp) : Bool := decide (1 ≤ s.time) && rightV s.v
def checkS (s : Stamp) : Int := if rightS s then 0 else 2
theorem checkS_yes {s : Stamp} (h : rightS s = true) : checkS s = 0 := by unfold checkS; rw [if_pos h]
theorem checkS_no {s : Stamp} (h : rightS s = false) : checkS s = 2 := by unfold checkS; rw [h]; rfl
set_option maxHeartbeats 400000 in
theorem vstamp_c (s : Stamp) (w : World) : Calls Tryd.prog 90 #[s.val] w (Ret (.int .i64 (checkS s)) w) := by
  unfold Stamp.val
  have hb := fun W => vcheck_c s.v W
  unfold Ver.val at hb
  have Hb := hid hb
  clear hb
  go_enter Tryd.func90, Tryd.ntmps90
  go_wp2_with (go_at_call 89; refine (Hb.out _).mono ?_; rintro e w' ⟨rfl, hx⟩)
  · go_ret
    exact ⟨by simp_all [checkS, rightS] <;> omega, (Ext.refl _).alloc' _⟩
  · go_ret
    exact ⟨by simp_all [checkS, checkV, rightS] <;> omega, ((Ext.refl _).alloc' _).trans hx⟩
end Go.Proofs.YtanflgipdiogaaaDoor
