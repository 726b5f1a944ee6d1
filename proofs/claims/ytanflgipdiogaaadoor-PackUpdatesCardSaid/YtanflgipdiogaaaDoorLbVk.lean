/-
  pack.same of updates and metas: puts again and compares. Whole rows are loaded and stored by VcA's laws.
-/
import Derived.Test.YtanflgipdiogaaaDoorLbUk
import Derived.Test.YtanflgipdiogaaaDoorVcA
import Derived.Test.YtanflgipdiogaaaDoorRes
namespace Go.Proofs.YtanflgipdiogaaaDoor
set_option linter.unusedSimpArgs false
set_option linter.unusedVariables false
open Go.RowKit

def gotK (b : Bool) : Int := if b then 0 else 6
def met0 : MetaI := ⟨⟨0, 0⟩, ⟨⟨0, 0⟩, 0⟩, ⟨#[]⟩, 0, false⟩
theorem upd_size : (Tryd.prog.info? 38).map (·.size) = some 8 := by kernel_rfl
theorem met_size : (Tryd.prog.info? 40).map (·.size) = some 8 := by kernel_rfl
attribute [-simp] Tryd.isAgg38 Tryd.sizeOf38
set_option maxRecDepth 100000 in
set_option maxHeartbeats 2000000 in
theorem sameU_x (w : World) (X : Array Value) (hX : X.size = 8) (hX1 : X.all (·.oneCell') = true) (s r : ByteArray) (e : Int) (HP : ∀ W, Ext w W → Hid (Calls Tryd.prog 26 #[.agg X] W (Ret (.tuple #[.string r, .int .i64 e]) W))) : Calls Tryd.prog 70 #[.agg X, .string s, .func (.func 26) #[] #[]] w (Ret (.tuple #[.agg (if e = 0 ∧ r = s then X else (#[.int .i64 0, .int .i64 0, .int .i64 0, .int .i64 0, .int .i64 0, .string ⟨#[]⟩, .string ⟨#[]⟩, .bool false] : Array Value)), .int .i64 (if e = 0 ∧ r = s then 0 else 6)]) w) := by
  obtain ⟨Z, hZ⟩ : ∃ Z : Array Value, (#[.int .i64 0, .int .i64 0, .int .i64 0, .int .i64 0, .int .i64 0, .string ⟨#[]⟩, .string ⟨#[]⟩, .bool false] : Array Value) = Z := ⟨_, rfl⟩
  have HX := hid (((Blk.new w 38 X).alloc (.cells Z 38)).alloc (.cells Z 38))
  have HR := hid ((Blk.new (w.alloc (.cells X 38)) 38 Z).alloc (.cells Z 38))
  have HN := hid (Blk.new ((w.alloc (.cells X 38)).alloc (.cells Z 38)) 38 Z)
  simp only [World.size_alloc] at HR HN
  have HE := hid (((Ext.alloc w (.cells X 38)).alloc' (.cells Z 38)).alloc' (.cells Z 38))
  have HhX := hid hX
  have HhO := hid hX1
  have HZ := hid (show Z.size = 8 by rw [← hZ]; rfl)
  have HZ1 := hid (show Z.all (·.oneCell') = true by rw [← hZ]; kernel_rfl)
  clear hX hX1
  rw [hZ]
  have key : ∀ (y : Array Value) (z : Int), (e = 0 ∧ r = s ∧ X = y ∧ z = 0 ∨ (e != 0) = true ∧ Z = y ∧ z = 6 ∨ e = 0 ∧ (r.toList == s.toList) = false ∧ Z = y ∧ z = 6) → Calls Tryd.prog 70 #[.agg X, .string s, .func (.func 26) #[] #[]] w (Ret (.tuple #[.agg y, .int .i64 z]) w) := by
    rintro y z (⟨rfl, rfl, rfl, rfl⟩ | ⟨d0, rfl, rfl⟩ | ⟨rfl, d1, rfl, rfl⟩)
    · have d0 : (r.toList == r.toList) = true := by simp
      go_enter Tryd.func70, Tryd.ntmps70
      go_wp2_with fail
      clear hZ
      generalize ((w.alloc (.cells _ 38)).alloc (.cells Z 38)).alloc (.cells Z 38) = w0 at HX HR HN HE ⊢
      simp only [Tryd.isAgg38, Tryd.sizeOf38, Result.andThen, ↓reduceIte, run_loadCells_blk HX.out 8 HhX.out]
      rw [Oper.upon_value]
      go_wp2_with fail
      refine ((HP _ HE.out).out).mono ?_
      rintro en w1 ⟨rfl, x1⟩
      have HX1 := hid (HX.out.ext x1)
      have HR1 := hid (HR.out.ext x1)
      have HN1 := hid (HN.out.ext x1)
      have HE1 := hid (HE.out.trans x1)
      clear x1 HX HR HN HE HP
      go_wp2_with fail
      simp only [Tryd.isAgg38, Tryd.sizeOf38, Result.andThen, ↓reduceIte, run_loadCells_blk HX1.out 8 HhX.out]
      rw [Oper.upon_value]
      go_wp2_with fail
      simp only [Tryd.sizeOf38, Result.andThen, ↓reduceIte, run_storeCells_blk HR1.out (by rw [HhX.out]; exact upd_size) (by first | rfl | rw [HhX.out, HZ.out] | rw [HZ.out, HhX.out]) HhO.out, HhX.out]
      rw [Oper.upon_skip]
      go_wp2_with fail
      have HF := hid (HR1.out.setRow X)
      exact bodyPost_ret (results_cell_row_tmp rfl _ _ (w.heap.size + 1) 38 _ (0, 0) _ rfl HF.out Tryd.underlying38 rfl (by rw [HhX.out]; exact upd_size)) rfl ⟨rfl, Ext.setRow HE1.out (by omega) _⟩
    · go_enter Tryd.func70, Tryd.ntmps70
      go_wp2_with fail
      clear hZ
      generalize ((w.alloc (.cells _ 38)).alloc (.cells Z 38)).alloc (.cells Z 38) = w0 at HX HR HN HE ⊢
      simp only [Tryd.isAgg38, Tryd.sizeOf38, Result.andThen, ↓reduceIte, run_loadCells_blk HX.out 8 HhX.out]
      rw [Oper.upon_value]
      go_wp2_with fail
      refine ((HP _ HE.out).out).mono ?_
      rintro en w1 ⟨rfl, x1⟩
      have HX1 := hid (HX.out.ext x1)
      have HR1 := hid (HR.out.ext x1)
      have HN1 := hid (HN.out.ext x1)
      have HE1 := hid (HE.out.trans x1)
      clear x1 HX HR HN HE HP
      go_wp2_with fail
      simp only [Tryd.isAgg38, Tryd.sizeOf38, Result.andThen, ↓reduceIte, run_loadCells_blk HN1.out 8 HZ.out]
      rw [Oper.upon_value]
      go_wp2_with fail
      simp only [Tryd.sizeOf38, Result.andThen, ↓reduceIte, run_storeCells_blk HR1.out (by rw [HZ.out]; exact upd_size) (by first | rfl | rw [HZ.out, HZ.out] | rw [HZ.out, HZ.out]) HZ1.out, HZ.out]
      rw [Oper.upon_skip]
      go_wp2_with fail
      have HF := hid (HR1.out.setRow Z)
      exact bodyPost_ret (results_cell_row_tmp rfl _ _ (w.heap.size + 1) 38 _ (0, 0) _ rfl HF.out Tryd.underlying38 rfl (by rw [HZ.out]; exact upd_size)) rfl ⟨rfl, Ext.setRow HE1.out (by omega) _⟩
    · go_enter Tryd.func70, Tryd.ntmps70
      go_wp2_with fail
      clear hZ
      generalize ((w.alloc (.cells _ 38)).alloc (.cells Z 38)).alloc (.cells Z 38) = w0 at HX HR HN HE ⊢
      simp only [Tryd.isAgg38, Tryd.sizeOf38, Result.andThen, ↓reduceIte, run_loadCells_blk HX.out 8 HhX.out]
      rw [Oper.upon_value]
      go_wp2_with fail
      refine ((HP _ HE.out).out).mono ?_
      rintro en w1 ⟨rfl, x1⟩
      have HX1 := hid (HX.out.ext x1)
      have HR1 := hid (HR.out.ext x1)
      have HN1 := hid (HN.out.ext x1)
      have HE1 := hid (HE.out.trans x1)
      clear x1 HX HR HN HE HP
      go_wp2_with fail
      simp only [Tryd.isAgg38, Tryd.sizeOf38, Result.andThen, ↓reduceIte, run_loadCells_blk HN1.out 8 HZ.out]
      rw [Oper.upon_value]
      go_wp2_with fail
      simp only [Tryd.sizeOf38, Result.andThen, ↓reduceIte, run_storeCells_blk HR1.out (by rw [HZ.out]; exact upd_size) (by first | rfl | rw [HZ.out, HZ.out] | rw [HZ.out, HZ.out]) HZ1.out, HZ.out]
      rw [Oper.upon_skip]
      go_wp2_with fail
      have HF := hid (HR1.out.setRow Z)
      exact bodyPost_ret (results_cell_row_tmp rfl _ _ (w.heap.size + 1) 38 _ (0, 0) _ rfl HF.out Tryd.underlying38 rfl (by rw [HZ.out]; exact upd_size)) rfl ⟨rfl, Ext.setRow HE1.out (by omega) _⟩
  by_cases h0 : e = 0
  · by_cases h1 : r = s
    · rw [if_pos ⟨h0, h1⟩, if_pos ⟨h0, h1⟩]
      exact key _ _ (.inl ⟨h0, h1, rfl, rfl⟩)
    · rw [if_neg (fun h => h1 h.2), if_neg (fun h => h1 h.2)]
      exact key _ _ (.inr (.inr ⟨h0, by rw [beq_toList]; simp [h1], rfl, rfl⟩))
  · rw [if_neg (fun h => h0 h.1), if_neg (fun h => h0 h.1)]
    exact key _ _ (.inr (.inl ⟨by simp [h0], rfl, rfl⟩))
attribute [-simp] Tryd.isAgg40 Tryd.sizeOf40
set_option maxRecDepth 100000 in
set_option maxHeartbeats 2000000 in
theorem sameM_x (w : World) (X : Array Value) (hX : X.size = 8) (hX1 : X.all (·.oneCell') = true) (s r : ByteArray) (e : Int) (HP : ∀ W, Ext w W → Hid (Calls Tryd.prog 27 #[.agg X] W (Ret (.tuple #[.string r, .int .i64 e]) W))) : Calls Tryd.prog 71 #[.agg X, .string s, .func (.func 27) #[] #[]] w (Ret (.tuple #[.agg (if e = 0 ∧ r = s then X else (#[.int .i64 0, .int .i64 0, .int .i64 0, .int .i64 0, .int .i64 0, .string ⟨#[]⟩, .int .i64 0, .bool false] : Array Value)), .int .i64 (if e = 0 ∧ r = s then 0 else 6)]) w) := by
  obtain ⟨Z, hZ⟩ : ∃ Z : Array Value, (#[.int .i64 0, .int .i64 0, .int .i64 0, .int .i64 0, .int .i64 0, .string ⟨#[]⟩, .int .i64 0, .bool false] : Array Value) = Z := ⟨_, rfl⟩
  have HX := hid (((Blk.new w 40 X).alloc (.cells Z 40)).alloc (.cells Z 40))
  have HR := hid ((Blk.new (w.alloc (.cells X 40)) 40 Z).alloc (.cells Z 40))
  have HN := hid (Blk.new ((w.alloc (.cells X 40)).alloc (.cells Z 40)) 40 Z)
  simp only [World.size_alloc] at HR HN
  have HE := hid (((Ext.alloc w (.cells X 40)).alloc' (.cells Z 40)).alloc' (.cells Z 40))
  have HhX := hid hX
  have HhO := hid hX1
  have HZ := hid (show Z.size = 8 by rw [← hZ]; rfl)
  have HZ1 := hid (show Z.all (·.oneCell') = true by rw [← hZ]; kernel_rfl)
  clear hX hX1
  rw [hZ]
  have key : ∀ (y : Array Value) (z : Int), (e = 0 ∧ r = s ∧ X = y ∧ z = 0 ∨ (e != 0) = true ∧ Z = y ∧ z = 6 ∨ e = 0 ∧ (r.toList == s.toList) = false ∧ Z = y ∧ z = 6) → Calls Tryd.prog 71 #[.agg X, .string s, .func (.func 27) #[] #[]] w (Ret (.tuple #[.agg y, .int .i64 z]) w) := by
    rintro y z (⟨rfl, rfl, rfl, rfl⟩ | ⟨d0, rfl, rfl⟩ | ⟨rfl, d1, rfl, rfl⟩)
    · have d0 : (r.toList == r.toList) = true := by simp
      go_enter Tryd.func71, Tryd.ntmps71
      go_wp2_with fail
      clear hZ
      generalize ((w.alloc (.cells _ 40)).alloc (.cells Z 40)).alloc (.cells Z 40) = w0 at HX HR HN HE ⊢
      simp only [Tryd.isAgg40, Tryd.sizeOf40, Result.andThen, ↓reduceIte, run_loadCells_blk HX.out 8 HhX.out]
      rw [Oper.upon_value]
      go_wp2_with fail
      refine ((HP _ HE.out).out).mono ?_
      rintro en w1 ⟨rfl, x1⟩
      have HX1 := hid (HX.out.ext x1)
      have HR1 := hid (HR.out.ext x1)
      have HN1 := hid (HN.out.ext x1)
      have HE1 := hid (HE.out.trans x1)
      clear x1 HX HR HN HE HP
      go_wp2_with fail
      simp only [Tryd.isAgg40, Tryd.sizeOf40, Result.andThen, ↓reduceIte, run_loadCells_blk HX1.out 8 HhX.out]
      rw [Oper.upon_value]
      go_wp2_with fail
      simp only [Tryd.sizeOf40, Result.andThen, ↓reduceIte, run_storeCells_blk HR1.out (by rw [HhX.out]; exact met_size) (by first | rfl | rw [HhX.out, HZ.out] | rw [HZ.out, HhX.out]) HhO.out, HhX.out]
      rw [Oper.upon_skip]
      go_wp2_with fail
      have HF := hid (HR1.out.setRow X)
      exact bodyPost_ret (results_cell_row_tmp rfl _ _ (w.heap.size + 1) 40 _ (0, 0) _ rfl HF.out Tryd.underlying40 rfl (by rw [HhX.out]; exact met_size)) rfl ⟨rfl, Ext.setRow HE1.out (by omega) _⟩
    · go_enter Tryd.func71, Tryd.ntmps71
      go_wp2_with fail
      clear hZ
      generalize ((w.alloc (.cells _ 40)).alloc (.cells Z 40)).alloc (.cells Z 40) = w0 at HX HR HN HE ⊢
      simp only [Tryd.isAgg40, Tryd.sizeOf40, Result.andThen, ↓reduceIte, run_loadCells_blk HX.out 8 HhX.out]
      rw [Oper.upon_value]
      go_wp2_with fail
      refine ((HP _ HE.out).out).mono ?_
      rintro en w1 ⟨rfl, x1⟩
      have HX1 := hid (HX.out.ext x1)
      have HR1 := hid (HR.out.ext x1)
      have HN1 := hid (HN.out.ext x1)
      have HE1 := hid (HE.out.trans x1)
      clear x1 HX HR HN HE HP
      go_wp2_with fail
      simp only [Tryd.isAgg40, Tryd.sizeOf40, Result.andThen, ↓reduceIte, run_loadCells_blk HN1.out 8 HZ.out]
      rw [Oper.upon_value]
      go_wp2_with fail
      simp only [Tryd.sizeOf40, Result.andThen, ↓reduceIte, run_storeCells_blk HR1.out (by rw [HZ.out]; exact met_size) (by first | rfl | rw [HZ.out, HZ.out] | rw [HZ.out, HZ.out]) HZ1.out, HZ.out]
      rw [Oper.upon_skip]
      go_wp2_with fail
      have HF := hid (HR1.out.setRow Z)
      exact bodyPost_ret (results_cell_row_tmp rfl _ _ (w.heap.size + 1) 40 _ (0, 0) _ rfl HF.out Tryd.underlying40 rfl (by rw [HZ.out]; exact met_size)) rfl ⟨rfl, Ext.setRow HE1.out (by omega) _⟩
    · go_enter Tryd.func71, Tryd.ntmps71
      go_wp2_with fail
      clear hZ
      generalize ((w.alloc (.cells _ 40)).alloc (.cells Z 40)).alloc (.cells Z 40) = w0 at HX HR HN HE ⊢
      simp only [Tryd.isAgg40, Tryd.sizeOf40, Result.andThen, ↓reduceIte, run_loadCells_blk HX.out 8 HhX.out]
      rw [Oper.upon_value]
      go_wp2_with fail
      refine ((HP _ HE.out).out).mono ?_
      rintro en w1 ⟨rfl, x1⟩
      have HX1 := hid (HX.out.ext x1)
      have HR1 := hid (HR.out.ext x1)
      have HN1 := hid (HN.out.ext x1)
      have HE1 := hid (HE.out.trans x1)
      clear x1 HX HR HN HE HP
      go_wp2_with fail
      simp only [Tryd.isAgg40, Tryd.sizeOf40, Result.andThen, ↓reduceIte, run_loadCells_blk HN1.out 8 HZ.out]
      rw [Oper.upon_value]
      go_wp2_with fail
      simp only [Tryd.sizeOf40, Result.andThen, ↓reduceIte, run_storeCells_blk HR1.out (by rw [HZ.out]; exact met_size) (by first | rfl | rw [HZ.out, HZ.out] | rw [HZ.out, HZ.out]) HZ1.out, HZ.out]
      rw [Oper.upon_skip]
      go_wp2_with fail
      have HF := hid (HR1.out.setRow Z)
      exact bodyPost_ret (results_cell_row_tmp rfl _ _ (w.heap.size + 1) 40 _ (0, 0) _ rfl HF.out Tryd.underlying40 rfl (by rw [HZ.out]; exact met_size)) rfl ⟨rfl, Ext.setRow HE1.out (by omega) _⟩
  by_cases h0 : e = 0
  · by_cases h1 : r = s
    · rw [if_pos ⟨h0, h1⟩, if_pos ⟨h0, h1⟩]
      exact key _ _ (.inl ⟨h0, h1, rfl, rfl⟩)
    · rw [if_neg (fun h => h1 h.2), if_neg (fun h => h1 h.2)]
      exact key _ _ (.inr (.inr ⟨h0, by rw [beq_toList]; simp [h1], rfl, rfl⟩))
  · rw [if_neg (fun h => h0 h.1), if_neg (fun h => h0 h.1)]
    exact key _ _ (.inr (.inl ⟨by simp [h0], rfl, rfl⟩))
end Go.Proofs.YtanflgipdiogaaaDoor
