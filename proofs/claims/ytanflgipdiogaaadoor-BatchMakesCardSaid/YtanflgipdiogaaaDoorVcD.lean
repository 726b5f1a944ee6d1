/-
  vec.Ends.
-/
import Derived.Test.YtanflgipdiogaaaDoorVcC
import Derived.Test.YtanflgipdiogaaaDoorRow
import Derived.Test.YtanflgipdiogaaaDoorApp
namespace Go.Proofs.YtanflgipdiogaaaDoor
set_option linter.unusedSimpArgs false
set_option linter.unusedVariables false
open Go.RowKit

theorem vr_coded : Coded Ver.cells 2 := ⟨fun _ => rfl, fun a u hu => by simp [Ver.cells] at hu; rcases hu with rfl | rfl <;> rfl⟩
theorem vr_info : (Tryd.prog.info? 34).map (fun i => (i.zero, i.size, i.bytes)) = some (some (.agg #[.int .i64 0, .int .i64 0]), 2, 16) := by kernel_rfl
theorem vr_elem : Elem Tryd.prog 60 34 2 16 := by
  obtain ⟨i0, h0, h1, h2, h3⟩ := info_parts vr_info
  exact ⟨Tryd.underlying60, i0, _, h0, h1, h2, h3, rfl⟩
def endsK (u : List Int) : Nat → List Ver
  | 0 => []
  | k + 1 => if 0 < u.getD k 0 then endsK u k ++ [⟨k, u.getD k 0⟩] else endsK u k
def endsL (v : List Int) : List Ver := endsK (cleanL v) 65
theorem endsK_len (u : List Int) : ∀ k, (endsK u k).length ≤ k
  | 0 => Nat.le_refl _
  | k + 1 => by
    have := endsK_len u k
    unfold endsK
    split
    · rw [List.length_append]; simp; omega
    · omega
attribute [-simp] Tryd.isAgg59 Tryd.sizeOf59
set_option maxRecDepth 100000 in
set_option maxHeartbeats 4000000 in
theorem ends13_c (w : World) (v : List Int) (hv : v.length = 65) : Calls Tryd.prog 78 #[.agg (vecV v)] w (RetQ (RowAt Ver.cells 2 (endsL v)) w) := by
  have HC := fun W => hid (clean13_c W v hv)
  have HB0 := hid (Blk.new w 59 (vecV v))
  have HE0 := hid (Ext.alloc w (.cells (vecV v) 59))
  have HL : Hid ((cleanL v).length = 65) := by unfold Hid; rw [cleanL_length]; exact hv
  have HV := hid hv
  clear hv
  unfold endsL
  generalize cleanL v = u at HC HL ⊢
  go_enter Tryd.func78, Tryd.ntmps78
  go_wp2_with fail
  generalize w.alloc (.cells (vecV v) 59) = w0 at HB0 HE0 ⊢
  simp only [Tryd.isAgg59, Tryd.sizeOf59, Result.andThen, ↓reduceIte, run_loadCells_blk HB0.out 65 (by rw [vecV_size]; exact HV.out)]
  rw [Oper.upon_value]
  go_wp2_with fail
  refine ((HC _).out).mono ?_
  rintro en w1 ⟨rfl, x1⟩
  have HE1 := hid (HE0.out.trans x1)
  clear x1 HB0 HE0 HC HV
  go_wp2_with fail
  go_loopw [3, 8] (fun s3 s8 wr => ∃ (k : Nat) (ov : Value), ov = s3 ∧ k ≤ 65 ∧ s8 = .int .i64 k ∧ Ext w wr ∧ ((endsK u k).length = 0 → s3 = .slice none 0 0) ∧ wr.ownsRow w.heap.size 34 2 s3 (endsK u k).length ((endsK u k).map Ver.cells).flatten) (fun _ s8 _ => 65 - (intOf s8).toNat)
  case atStart => exact ⟨0, _, rfl, by omega, rfl, HE1.out, (fun _ => rfl), ownsRow_nil _ _ _ _⟩
  case round =>
    obtain ⟨k, s3, rfl, hk, rfl, hE, hz, hO⟩ := hrel
    have HE := hid hE
    have HO := hid hO
    have HZ := hid hz
    clear HE1 hE hz hO
    by_cases hlt : k < 65
    · have d1 : decide ((k : Int) < 65) = true := decide_eq_true (by omega)
      have d1' : decide (k < 65) = true := decide_eq_true hlt
      obtain ⟨z, hzk⟩ : ∃ z, u[k]? = some z := ⟨_, List.getElem?_eq_getElem (by rw [HL.out]; exact hlt)⟩
      have hix := fun W => run_index_vec u k z hlt hzk W
      have hg : u.getD k 0 = z := by rw [List.getD_eq_getElem?_getD, hzk]; rfl
      have HM : Hid (endsK u (k + 1) = if 0 < z then endsK u k ++ [⟨k, z⟩] else endsK u k) := by unfold Hid; rw [endsK, hg]
      have hln := endsK_len u k
      clear hg hzk
      generalize endsK u k = acc at HO HZ HM hln
      by_cases hp : 0 < z
      · have dp : decide (0 < z) = true := decide_eq_true hp
        rw [if_pos hp] at HM
        clear hp
        go_wp2_with (at_builtin; obtain ⟨v', w6, hrun6, ho6, hk6, _⟩ := app_one (P := Tryd.prog) vr_elem vr_coded HO.out HE.out.size (⟨k, z⟩ : Ver) (by omega) (by omega); simp only [Ver.cells] at hrun6; have HE6 := hid (hk6.toExt HE.out (fun q hq => (row_block HO.out q hq).1)); have HO6 := hid ho6; clear ho6 hk6; refine wpList_app rfl (.tmp 14) (.tmp 18) _ _ rfl rfl rfl hrun6 ?_)
        go_roundw
        case rel => exact ⟨k + 1, _, rfl, by omega, by go_num, HE6.out, (fun h => by rw [HM.out] at h; simp at h), by rw [HM.out]; exact HO6.out⟩
        case measure => simp [intOf]; omega
      · have dp : decide (0 < z) = false := decide_eq_false hp
        rw [if_neg hp] at HM
        clear hp
        go_wp2_with fail
        go_roundw
        case rel => exact ⟨k + 1, _, rfl, by omega, by go_num, HE.out, (by rw [HM.out]; exact HZ.out), by rw [HM.out]; exact HO.out⟩
        case measure => simp [intOf]; omega
    · obtain rfl : k = 65 := by omega
      have hrow := RowAt.of_row vr_coded HO.out HZ.out
      have HR := hid hrow
      clear hrow HO HZ hlt hk
      go_wp2_with fail
      go_ret
      exact ⟨_, rfl, HR.out, HE.out⟩
end Go.Proofs.YtanflgipdiogaaaDoor
