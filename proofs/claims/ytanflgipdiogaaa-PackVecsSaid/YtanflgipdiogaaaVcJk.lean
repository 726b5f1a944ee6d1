/-
  pack.same of vectors; pack.read.
-/
import Derived.Test.YtanflgipdiogaaaVcIk
import Derived.Test.YtanflgipdiogaaaRes
import Derived.Test.YtanflgipdiogaaaStr
namespace Go.Proofs.Ytanflgipdiogaaa
set_option linter.unusedSimpArgs false
set_option linter.unusedVariables false
open Go.RowKit

attribute [-simp] Try.isAgg23 Try.sizeOf23
set_option maxRecDepth 100000 in
set_option maxHeartbeats 2000000 in
theorem sameV_c (w : World) (v : List Int) (hv : v.length = 65) (s r : ByteArray) (e : Int) (HP : ∀ W, Ext w W → Hid (Calls Try.prog 5 #[.agg (vecV v)] W (Ret (.tuple #[.string r, .int .i64 e]) W))) : Calls Try.prog 30 #[.agg (vecV v), .string s, .func (.func 5) #[] #[]] w (Ret (.tuple #[.agg (vecV (if e = 0 ∧ r = s then v else vec0)), .int .i64 (if e = 0 ∧ r = s then 0 else 6)]) w) := by
  have HX := hid (((Blk.new w 23 (vecV v)).alloc (.cells (vecV vec0) 23)).alloc (.cells (vecV vec0) 23))
  have HR := hid ((Blk.new (w.alloc (.cells (vecV v) 23)) 23 (vecV vec0)).alloc (.cells (vecV vec0) 23))
  have HN := hid (Blk.new ((w.alloc (.cells (vecV v) 23)).alloc (.cells (vecV vec0) 23)) 23 (vecV vec0))
  simp only [World.size_alloc] at HR HN
  have HE := hid (((Ext.alloc w (.cells (vecV v) 23)).alloc' (.cells (vecV vec0) 23)).alloc' (.cells (vecV vec0) 23))
  have HhX := hid hv
  have HZ : Hid (vec0.length = 65) := by unfold Hid; simp [vec0]
  clear hv
  have key : ∀ (y : List Int) (z : Int), (e = 0 ∧ r = s ∧ v = y ∧ z = 0 ∨ (e != 0) = true ∧ vec0 = y ∧ z = 6 ∨ e = 0 ∧ (r.toList == s.toList) = false ∧ vec0 = y ∧ z = 6) → Calls Try.prog 30 #[.agg (vecV v), .string s, .func (.func 5) #[] #[]] w (Ret (.tuple #[.agg (vecV y), .int .i64 z]) w) := by
    rintro y z (⟨rfl, rfl, rfl, rfl⟩ | ⟨d0, rfl, rfl⟩ | ⟨rfl, d1, rfl, rfl⟩)
    · have d0 : (r.toList == r.toList) = true := by simp
      go_enter Try.func30, Try.ntmps30
      go_wp2_with fail
      generalize ((w.alloc (.cells (vecV v) 23)).alloc (.cells (vecV vec0) 23)).alloc (.cells (vecV vec0) 23) = w0 at HX HR HN HE ⊢
      simp only [Try.isAgg23, Try.sizeOf23, Result.andThen, ↓reduceIte, run_loadCells_blk HX.out 65 (by rw [vecV_size]; exact HhX.out)]
      rw [Oper.upon_value]
      go_wp2_with fail
      refine ((HP _ HE.out).out).mono ?_
      rintro en w1 ⟨rfl, x1⟩
      have HX1 := hid (HX.out.ext x1)
      have HR1 := hid (HR.out.ext x1)
      have HN1 := hid (HN.out.ext x1)
      have HE1 := hid (HE.out.trans x1)
      clear x1 HX HR HN HE HP
      go_wp2_with fail
      simp only [Try.isAgg23, Try.sizeOf23, Result.andThen, ↓reduceIte, run_loadCells_blk HX1.out 65 (by rw [vecV_size]; exact HhX.out)]
      rw [Oper.upon_value]
      go_wp2_with fail
      simp only [Try.sizeOf23, Result.andThen, ↓reduceIte, run_storeCells_blk HR1.out (by rw [vecV_size, HhX.out]; exact vec_size) (by first | rfl | (rw [vecV_size, vecV_size, HhX.out]; exact HZ.out)) (vecV_one _), show (vecV _).size = 65 from (vecV_size _).trans HhX.out]
      rw [Oper.upon_skip]
      go_wp2_with fail
      have HF := hid (HR1.out.setRow (vecV v))
      exact bodyPost_ret (results_cell_row_tmp rfl _ _ (w.heap.size + 1) 23 _ (0, 0) _ rfl HF.out Try.underlying23 rfl (by rw [vecV_size, HhX.out]; exact vec_size)) rfl ⟨rfl, Ext.setRow HE1.out (by omega) _⟩
    · go_enter Try.func30, Try.ntmps30
      go_wp2_with fail
      generalize ((w.alloc (.cells (vecV v) 23)).alloc (.cells (vecV vec0) 23)).alloc (.cells (vecV vec0) 23) = w0 at HX HR HN HE ⊢
      simp only [Try.isAgg23, Try.sizeOf23, Result.andThen, ↓reduceIte, run_loadCells_blk HX.out 65 (by rw [vecV_size]; exact HhX.out)]
      rw [Oper.upon_value]
      go_wp2_with fail
      refine ((HP _ HE.out).out).mono ?_
      rintro en w1 ⟨rfl, x1⟩
      have HX1 := hid (HX.out.ext x1)
      have HR1 := hid (HR.out.ext x1)
      have HN1 := hid (HN.out.ext x1)
      have HE1 := hid (HE.out.trans x1)
      clear x1 HX HR HN HE HP
      go_wp2_with fail
      simp only [Try.isAgg23, Try.sizeOf23, Result.andThen, ↓reduceIte, run_loadCells_blk HN1.out 65 (by rw [vecV_size]; exact HZ.out)]
      rw [Oper.upon_value]
      go_wp2_with fail
      simp only [Try.sizeOf23, Result.andThen, ↓reduceIte, run_storeCells_blk HR1.out (by rw [vecV_size, HZ.out]; exact vec_size) (by first | rfl | (rw [vecV_size, vecV_size, HZ.out]; exact HZ.out)) (vecV_one _), show (vecV _).size = 65 from (vecV_size _).trans HZ.out]
      rw [Oper.upon_skip]
      go_wp2_with fail
      have HF := hid (HR1.out.setRow (vecV vec0))
      exact bodyPost_ret (results_cell_row_tmp rfl _ _ (w.heap.size + 1) 23 _ (0, 0) _ rfl HF.out Try.underlying23 rfl (by rw [vecV_size, HZ.out]; exact vec_size)) rfl ⟨rfl, Ext.setRow HE1.out (by omega) _⟩
    · go_enter Try.func30, Try.ntmps30
      go_wp2_with fail
      generalize ((w.alloc (.cells (vecV v) 23)).alloc (.cells (vecV vec0) 23)).alloc (.cells (vecV vec0) 23) = w0 at HX HR HN HE ⊢
      simp only [Try.isAgg23, Try.sizeOf23, Result.andThen, ↓reduceIte, run_loadCells_blk HX.out 65 (by rw [vecV_size]; exact HhX.out)]
      rw [Oper.upon_value]
      go_wp2_with fail
      refine ((HP _ HE.out).out).mono ?_
      rintro en w1 ⟨rfl, x1⟩
      have HX1 := hid (HX.out.ext x1)
      have HR1 := hid (HR.out.ext x1)
      have HN1 := hid (HN.out.ext x1)
      have HE1 := hid (HE.out.trans x1)
      clear x1 HX HR HN HE HP
      go_wp2_with fail
      simp only [Try.isAgg23, Try.sizeOf23, Result.andThen, ↓reduceIte, run_loadCells_blk HN1.out 65 (by rw [vecV_size]; exact HZ.out)]
      rw [Oper.upon_value]
      go_wp2_with fail
      simp only [Try.sizeOf23, Result.andThen, ↓reduceIte, run_storeCells_blk HR1.out (by rw [vecV_size, HZ.out]; exact vec_size) (by first | rfl | (rw [vecV_size, vecV_size, HZ.out]; exact HZ.out)) (vecV_one _), show (vecV _).size = 65 from (vecV_size _).trans HZ.out]
      rw [Oper.upon_skip]
      go_wp2_with fail
      have HF := hid (HR1.out.setRow (vecV vec0))
      exact bodyPost_ret (results_cell_row_tmp rfl _ _ (w.heap.size + 1) 23 _ (0, 0) _ rfl HF.out Try.underlying23 rfl (by rw [vecV_size, HZ.out]; exact vec_size)) rfl ⟨rfl, Ext.setRow HE1.out (by omega) _⟩
  by_cases h0 : e = 0
  · by_cases h1 : r = s
    · rw [if_pos ⟨h0, h1⟩, if_pos ⟨h0, h1⟩]
      exact key _ _ (.inl ⟨h0, h1, rfl, rfl⟩)
    · rw [if_neg (fun h => h1 h.2), if_neg (fun h => h1 h.2)]
      exact key _ _ (.inr (.inr ⟨h0, by rw [beq_toList]; simp [h1], rfl, rfl⟩))
  · rw [if_neg (fun h => h0 h.1), if_neg (fun h => h0 h.1)]
    exact key _ _ (.inr (.inl ⟨by simp [h0], rfl, rfl⟩))
end Go.Proofs.Ytanflgipdiogaaa
