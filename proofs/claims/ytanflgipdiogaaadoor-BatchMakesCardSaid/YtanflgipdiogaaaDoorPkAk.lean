/-
  awake of chapter 17; answer; Light.
-/
import Derived.Test.YtanflgipdiogaaaDoorQcH
namespace Go.Proofs.YtanflgipdiogaaaDoor
set_option linter.unusedSimpArgs false
set_option linter.unusedVariables false
open Go.RowKit

/-- The vector of awake. -/
def vecE : List Int := vec0.set 1 5
theorem vecE_len : vecE.length = 65 := by unfold vecE vec0; simp
theorem vecE_of : ofL [⟨1, 5⟩] = vecE := by decide
theorem vecE_clean : vecE = cleanL vecE := by decide
theorem vecE_ends : endsL vecE = [⟨1, 5⟩] := by decide
theorem vecE_in : in64L vecE := by
  intro z hz
  rcases List.mem_or_eq_of_mem_set hz with hz | rfl
  · exact vec0_in z hz
  · unfold in64; omega
theorem bytesE : listB verB (endsL vecE) = ⟨#[1, 2, 1, 5]⟩ := by
  rw [vecE_ends]
  have hv : okVer ⟨1, 5⟩ := ⟨by decide, by decide, by decide, by decide⟩
  have h1 : (verB ⟨1, 5⟩).data.toList = [1, 5] := by
    rw [verB_list hv]
    show lebL 1 ++ (lebL 5 ++ []) = _
    rw [lebL_small (by omega), lebL_small (by omega)]; rfl
  have h2 : (verB ⟨1, 5⟩).size = 2 := by
    have : (verB ⟨1, 5⟩).data.toList.length = (verB ⟨1, 5⟩).size := by rw [Array.length_toList]; rfl
    rw [← this, h1]; rfl
  apply ByteArray.ext
  apply Array.ext'
  show encL (fN 1 :: [fT (verB ⟨1, 5⟩)]) = [1, 2, 1, 5]
  rw [encL_cons, encL_cons]
  show lebL 1 ++ ((lebL (verB ⟨1, 5⟩).size ++ (verB ⟨1, 5⟩).data.toList) ++ []) = _
  rw [h1, h2, lebL_small (by omega), lebL_small (by omega)]; rfl
attribute [-simp] Tryd.isAgg59 Tryd.sizeOf59
set_option maxRecDepth 100000 in
set_option maxHeartbeats 4000000 in
theorem awake17_c (w : World) : Calls Tryd.prog 18 #[] w (Ret (.bool true) w) := by
  have HOf := fun W u (h : Sl W 2 u ([⟨1, 5⟩].map Ver.cells)) => hid (of13_c W u [⟨1, 5⟩] h)
  rw [vecE_of] at HOf
  have HPu := fun W => hid (putV_c W vecE vecE_len vecE_in)
  rw [decide_eq_true vecE_clean, bytesE] at HPu
  have HGe := fun W => hid (getV_back W vecE vecE_len vecE_in vecE_clean)
  rw [bytesE] at HGe
  have HEq := fun W => run_eq_vec vecE vecE vecE_len vecE_len W
  rw [decide_eq_true rfl] at HEq
  have HL := hid vecE_len
  have HZ : Hid (vec0.length = 65) := by unfold Hid; simp [vec0]
  have HSl : Hid (Sl (w.alloc (.cells #[.int .i64 1, .int .i64 5] 34)) 2 (.slice (some ⟨w.heap.size, 0, none⟩) 1 1) ([⟨1, 5⟩].map Ver.cells)) := Sl.of_flat (Blk.new w _ _) ⟨[], by simp [Ver.cells]⟩ (by simp [Ver.cells]) rfl (Nat.le_refl _) (by unfold maxLen; omega)
  have HE0 := hid (Ext.alloc w (.cells #[.int .i64 1, .int .i64 5] 34))
  generalize vecE = u at HOf HPu HGe HEq HL
  go_enter Tryd.func18, Tryd.ntmps18
  go_wp2_with fail
  refine ((HOf _ _ HSl.out).out).mono ?_
  rintro en w1 ⟨rfl, x1⟩
  have HE1 := hid ((HE0.out.trans x1).alloc' (.cells (vecV vec0) 59))
  have HB1 := hid (Blk.new w1 59 (vecV vec0))
  have x1s := (HE0.out.trans x1).size
  clear x1 HSl HE0 HOf
  go_wp2_with fail
  simp only [Tryd.sizeOf59, Result.andThen, ↓reduceIte, run_storeCells_blk HB1.out (by rw [vecV_size, HL.out]; exact vec_size) (by first | rfl | (rw [vecV_size, vecV_size, HL.out]; exact HZ.out)) (vecV_one _), show (vecV _).size = 65 from (vecV_size _).trans HL.out]
  rw [Oper.upon_skip]
  have HB2 := hid (HB1.out.setRow (vecV u))
  have HE2 := hid (HE1.out.setRow (g := w1.heap.size) (by have := HE1.out.size; rw [World.size_alloc] at this; have := x1s; omega) (vecV u))
  clear HB1 HE1
  obtain ⟨g, hg⟩ : ∃ g, w1.heap.size = g := ⟨_, rfl⟩
  generalize (w1.alloc (.cells (vecV vec0) 59)).setRow w1.heap.size (vecV u) = w2 at HB2 HE2 ⊢
  rw [hg] at HB2 ⊢
  clear hg x1s
  go_wp2_with fail
  simp only [Tryd.isAgg59, Tryd.sizeOf59, Result.andThen, ↓reduceIte, run_loadCells_blk HB2.out 65 (by rw [vecV_size]; exact HL.out)]
  rw [Oper.upon_value]
  go_wp2_with fail
  refine ((HPu _).out).mono ?_
  rintro en w3 ⟨rfl, x3⟩
  have HB3 := hid (HB2.out.ext x3)
  have HE3 := hid (HE2.out.trans x3)
  clear HB2 HE2 x3 HPu
  rw [show putB true (⟨#[1, 2, 1, 5]⟩ : ByteArray) = ⟨#[1, 2, 1, 5]⟩ from rfl, show okZ true = 0 from rfl]
  go_wp2_with fail
  refine ((HGe _).out).mono ?_
  rintro en w4 ⟨rfl, x4⟩
  have HB4 := hid ((HB3.out.ext x4).alloc (.cells (vecV vec0) 59))
  have HC4 := hid (Blk.new w4 59 (vecV vec0))
  have HE4 := hid ((HE3.out.trans x4).alloc' (.cells (vecV vec0) 59))
  have HG : Hid (g < w4.heap.size) := (HB3.out.ext x4).lt
  have HW : Hid (w.heap.size ≤ w4.heap.size) := (HE3.out.trans x4).size
  clear HB3 HE3 x4 HGe
  go_wp2_with fail
  simp only [Tryd.sizeOf59, Result.andThen, ↓reduceIte, run_storeCells_blk HC4.out (by rw [vecV_size, HL.out]; exact vec_size) (by first | rfl | (rw [vecV_size, vecV_size, HL.out]; exact HZ.out)) (vecV_one _), show (vecV _).size = 65 from (vecV_size _).trans HL.out]
  rw [Oper.upon_skip]
  have HC5 := hid (HC4.out.setRow (vecV u))
  have HB5 := hid (HB4.out.farRow (k := w4.heap.size) (by have := HG.out; omega) (vecV u))
  have HE5 := hid (HE4.out.setRow HW.out (vecV u))
  generalize (w4.alloc (.cells (vecV vec0) 59)).setRow w4.heap.size (vecV u) = w5 at HC5 HB5 HE5 ⊢
  clear HC4 HB4 HE4
  go_wp2_with fail
  simp only [Tryd.isAgg59, Tryd.sizeOf59, Result.andThen, ↓reduceIte, run_loadCells_blk HC5.out 65 (by rw [vecV_size]; exact HL.out)]
  rw [Oper.upon_value]
  go_wp2_with fail
  simp only [Tryd.isAgg59, Tryd.sizeOf59, Result.andThen, ↓reduceIte, run_loadCells_blk HB5.out 65 (by rw [vecV_size]; exact HL.out)]
  rw [Oper.upon_value]
  go_wp2_with fail
  go_ret
  exact ⟨rfl, HE5.out⟩
end Go.Proofs.YtanflgipdiogaaaDoor
