/-
  vec.Add, vec.Of.
-/
import Derived.Test.YtanflgipdiogaaaDoorVcA
import Derived.Test.YtanflgipdiogaaaDoorUqV
import Derived.Test.YtanflgipdiogaaaDoorAwT
namespace Go.Proofs.YtanflgipdiogaaaDoor
set_option linter.unusedSimpArgs false
set_option linter.unusedVariables false
open Go.RowKit

def addL (v : List Int) (x : Ver) : List Int := if rightV x then (cleanL v).set x.by_.toNat (max ((cleanL v).getD x.by_.toNat 0) x.n) else cleanL v
theorem addL_length (v : List Int) (x : Ver) : (addL v x).length = v.length := by
  unfold addL
  split
  · rw [List.length_set, cleanL_length]
  · exact cleanL_length v
attribute [-simp] Tryd.isAgg59 Tryd.sizeOf59
set_option maxRecDepth 100000 in
set_option maxHeartbeats 2000000 in
theorem add13_no (w : World) (v : List Int) (xb xn : Int) (hv : v.length = 65) (hr : rightV ⟨xb, xn⟩ = false) : Calls Tryd.prog 76 #[.agg (vecV v), .agg #[.int .i64 xb, .int .i64 xn]] w (Ret (.agg (vecV (cleanL v))) w) := by
  have HC := fun W => hid (clean13_c W v hv)
  have HK := fun W => hid (vcheck_c ⟨xb, xn⟩ W)
  have HB0 := hid (((Blk.new w 59 (vecV v)).alloc (.cells #[.int .i64 xb, .int .i64 xn] 34)).alloc (.cells (vecV vec0) 59))
  have HX0 := hid ((Blk.new (w.alloc (.cells (vecV v) 59)) 34 #[.int .i64 xb, .int .i64 xn]).alloc (.cells (vecV vec0) 59))
  have HR0 := hid (Blk.new ((w.alloc (.cells (vecV v) 59)).alloc (.cells #[.int .i64 xb, .int .i64 xn] 34)) 59 (vecV vec0))
  have HE0 := hid (((Ext.alloc w (.cells (vecV v) 59)).alloc' (.cells #[.int .i64 xb, .int .i64 xn] 34)).alloc' (.cells (vecV vec0) 59))
  simp only [World.size_alloc] at HX0 HR0
  have HV := hid hv
  have HL : Hid ((cleanL v).length = 65) := by unfold Hid; rw [cleanL_length]; exact hv
  unfold Ver.val at HK
  clear hv
  rw [checkV_no hr] at HK
  clear hr
  go_enter Tryd.func76, Tryd.ntmps76
  go_wp2_with fail
  generalize ((w.alloc (.cells (vecV v) 59)).alloc (.cells #[.int .i64 xb, .int .i64 xn] 34)).alloc (.cells (vecV vec0) 59) = w0 at HB0 HX0 HR0 HE0 ⊢
  simp only [Tryd.isAgg59, Tryd.sizeOf59, Result.andThen, ↓reduceIte, run_loadCells_blk HB0.out 65 (by rw [vecV_size]; exact HV.out)]
  rw [Oper.upon_value]
  go_wp2_with fail
  refine ((HC _).out).mono ?_
  rintro en w1 ⟨rfl, x1⟩
  have HB1 := hid (HB0.out.ext x1)
  have HX1 := hid (HX0.out.ext x1)
  have HR1 := hid (HR0.out.ext x1)
  have HE1 := hid (HE0.out.trans x1)
  clear x1 HB0 HX0 HR0 HE0
  go_wp2_with fail
  simp only [Tryd.sizeOf59, Result.andThen, ↓reduceIte, run_storeCells_blk HB1.out (by rw [vecV_size, HL.out]; exact vec_size) (by rw [vecV_size, vecV_size, HL.out]; exact HV.out) (vecV_one _), show (vecV _).size = 65 from (vecV_size _).trans HL.out]
  rw [Oper.upon_skip]
  have HB2 := hid (HB1.out.setRow (vecV (cleanL v)))
  have HX2 := hid (HX1.out.farRow (k := w.heap.size) (by omega) (vecV (cleanL v)))
  have HR2 := hid (HR1.out.farRow (k := w.heap.size) (by omega) (vecV (cleanL v)))
  have HE2 := hid (HE1.out.setRow (Nat.le_refl _) (vecV (cleanL v)))
  generalize w1.setRow w.heap.size (vecV (cleanL v)) = w2 at HB2 HX2 HR2 HE2 ⊢
  clear HB1 HX1 HR1 HE1
  have a0 := HX2.out.cell (i := 0) (v := .int .i64 xb) rfl
  have a1 := HX2.out.cell (i := 1) (v := .int .i64 xn) rfl
  have la := HX2.out.lt
  go_wp2_with fail
  clear a0 a1 la
  refine ((HK _).out).mono ?_
  rintro en w3 ⟨rfl, x3⟩
  have HB3 := hid (HB2.out.ext x3)
  have HX3 := hid (HX2.out.ext x3)
  have HR3 := hid (HR2.out.ext x3)
  have HE3 := hid (HE2.out.trans x3)
  clear x3 HB2 HX2 HR2 HE2 HK HC
  go_wp2_with fail
  simp only [Tryd.isAgg59, Tryd.sizeOf59, Result.andThen, ↓reduceIte, run_loadCells_blk HB3.out 65 (by rw [vecV_size]; exact HL.out)]
  rw [Oper.upon_value]
  go_wp2_with fail
  simp only [Tryd.sizeOf59, Result.andThen, ↓reduceIte, run_storeCells_blk HR3.out (by rw [vecV_size, HL.out]; exact vec_size) (by rw [vecV_size, vecV_size, HL.out]; exact (by rfl)) (vecV_one _), show (vecV _).size = 65 from (vecV_size _).trans HL.out]
  rw [Oper.upon_skip]
  go_wp2_with fail
  have HF := hid ((HR3.out).setRow (vecV (cleanL v)))
  exact bodyPost_ret (results_cell_row rfl _ _ (w.heap.size + 1 + 1) 59 _ (0, 0) _ rfl HF.out Tryd.underlying59 rfl (by rw [vecV_size, HL.out]; exact vec_size)) rfl ⟨rfl, Ext.setRow HE3.out (by omega) _⟩
set_option maxRecDepth 100000 in
set_option maxHeartbeats 2000000 in
theorem add13_yes (w : World) (v : List Int) (k : Nat) (xn : Int) (hv : v.length = 65) (hr : rightV ⟨k, xn⟩ = true) : Calls Tryd.prog 76 #[.agg (vecV v), .agg #[.int .i64 k, .int .i64 xn]] w (Ret (.agg (vecV ((cleanL v).set k (max ((cleanL v).getD k 0) xn)))) w) := by
  have hk65 : k < 65 := by unfold rightV at hr; simp only [decide_eq_true_eq] at hr; omega
  have HC := fun W => hid (clean13_c W v hv)
  have HK := fun W => hid (vcheck_c ⟨(k : Int), xn⟩ W)
  have HB0 := hid (((Blk.new w 59 (vecV v)).alloc (.cells #[.int .i64 (k : Int), .int .i64 xn] 34)).alloc (.cells (vecV vec0) 59))
  have HX0 := hid ((Blk.new (w.alloc (.cells (vecV v) 59)) 34 #[.int .i64 (k : Int), .int .i64 xn]).alloc (.cells (vecV vec0) 59))
  have HR0 := hid (Blk.new ((w.alloc (.cells (vecV v) 59)).alloc (.cells #[.int .i64 (k : Int), .int .i64 xn] 34)) 59 (vecV vec0))
  have HE0 := hid (((Ext.alloc w (.cells (vecV v) 59)).alloc' (.cells #[.int .i64 (k : Int), .int .i64 xn] 34)).alloc' (.cells (vecV vec0) 59))
  simp only [World.size_alloc] at HX0 HR0
  have HV := hid hv
  have HL : Hid ((cleanL v).length = 65) := by unfold Hid; rw [cleanL_length]; exact hv
  unfold Ver.val at HK
  clear hv
  rw [checkV_yes hr] at HK
  clear hr
  go_enter Tryd.func76, Tryd.ntmps76
  go_wp2_with fail
  generalize ((w.alloc (.cells (vecV v) 59)).alloc (.cells #[.int .i64 (k : Int), .int .i64 xn] 34)).alloc (.cells (vecV vec0) 59) = w0 at HB0 HX0 HR0 HE0 ⊢
  simp only [Tryd.isAgg59, Tryd.sizeOf59, Result.andThen, ↓reduceIte, run_loadCells_blk HB0.out 65 (by rw [vecV_size]; exact HV.out)]
  rw [Oper.upon_value]
  go_wp2_with fail
  refine ((HC _).out).mono ?_
  rintro en w1 ⟨rfl, x1⟩
  have HB1 := hid (HB0.out.ext x1)
  have HX1 := hid (HX0.out.ext x1)
  have HR1 := hid (HR0.out.ext x1)
  have HE1 := hid (HE0.out.trans x1)
  clear x1 HB0 HX0 HR0 HE0
  go_wp2_with fail
  simp only [Tryd.sizeOf59, Result.andThen, ↓reduceIte, run_storeCells_blk HB1.out (by rw [vecV_size, HL.out]; exact vec_size) (by rw [vecV_size, vecV_size, HL.out]; exact HV.out) (vecV_one _), show (vecV _).size = 65 from (vecV_size _).trans HL.out]
  rw [Oper.upon_skip]
  have HB2 := hid (HB1.out.setRow (vecV (cleanL v)))
  have HX2 := hid (HX1.out.farRow (k := w.heap.size) (by omega) (vecV (cleanL v)))
  have HR2 := hid (HR1.out.farRow (k := w.heap.size) (by omega) (vecV (cleanL v)))
  have HE2 := hid (HE1.out.setRow (Nat.le_refl _) (vecV (cleanL v)))
  generalize w1.setRow w.heap.size (vecV (cleanL v)) = w2 at HB2 HX2 HR2 HE2 ⊢
  clear HB1 HX1 HR1 HE1
  have a0 := HX2.out.cell (i := 0) (v := .int .i64 (k : Int)) rfl
  have a1 := HX2.out.cell (i := 1) (v := .int .i64 xn) rfl
  have la := HX2.out.lt
  go_wp2_with fail
  clear a0 a1 la
  refine ((HK _).out).mono ?_
  rintro en w3 ⟨rfl, x3⟩
  have HB3 := hid (HB2.out.ext x3)
  have HX3 := hid (HX2.out.ext x3)
  have HR3 := hid (HR2.out.ext x3)
  have HE3 := hid (HE2.out.trans x3)
  clear x3 HB2 HX2 HR2 HE2 HK HC
  go_wp2_with fail
  have dk : decide ((k : Int) < 65) = true := decide_eq_true (by omega)
  obtain ⟨z, hz⟩ : ∃ z, (cleanL v)[k]? = some z := ⟨_, List.getElem?_eq_getElem (by rw [HL.out]; exact hk65)⟩
  have hg : (cleanL v).getD k 0 = z := by rw [List.getD_eq_getElem?_getD, hz]; rfl
  have HG := hid hg
  have HW : Hid (((cleanL v).set k (max z xn)).length = 65) := by unfold Hid; rw [List.length_set]; exact HL.out
  have HS := hid (vecV_set (cleanL v) k (max z xn))
  have c0 := HB3.out.cell (vecV_get _ _ _ hz)
  have z0 := HB3.out.frozen k
  have lb := HB3.out.lt
  have a0 := HX3.out.cell (i := 0) (v := .int .i64 k) rfl
  have a1 := HX3.out.cell (i := 1) (v := .int .i64 xn) rfl
  have la := HX3.out.lt
  have CZ := hid (vecV_get _ _ _ hz)
  clear hz hg
  refine wp_region_last (Rel.ext) (pre := ?pre12) (z := ?z12) ?hpre12 ?hz12 (Ext.steady _) (by kernel_rfl) (by kernel_rfl) (by kernel_rfl) (by kernel_rfl) ?_
  case hpre12 => (simp only [List.dropLast_cons_cons, List.dropLast_singleton]; first | done | exact rfl)
  case hz12 => (simp only [List.getLast?_cons_cons, List.getLast?_singleton]; first | done | exact rfl)
  repeat (first
    | (refine AWq.val rfl rfl rfl rfl (fun K hK => ?_); go_big_quiet_op; refine hK _ ?_; clear hK K)
    | (refine AWq.skip rfl rfl rfl ?_; simp only [Act.put, List.setIfInBounds_toArray, List.set_cons_succ, List.set_cons_zero]))
  refine AWq.last rfl rfl rfl (fun w4 x4 => ?_)
  simp only [closeAny, Act.put, List.setIfInBounds_toArray, List.set_cons_succ, List.set_cons_zero]
  have HB4 := hid (HB3.out.ext x4)
  have HR4 := hid (HR3.out.ext x4)
  have HE4 := hid (HE3.out.trans x4)
  clear c0 z0 lb a0 a1 la HB3 HX3 HR3 HE3 x4
  have z0 := HB4.out.frozen k
  have c0 := HB4.out.cell CZ.out
  have lb := HB4.out.lt
  go_wp2_with fail
  have HBs := hid (HB4.out.set k (.int .i64 (max z xn)))
  rw [HS.out] at HBs
  have HRs := hid (HR4.out.far (p := ⟨w.heap.size, k, none⟩) (by show w.heap.size + 1 + 1 ≠ w.heap.size; omega) (.int .i64 (max z xn)))
  have HEs := hid (HE4.out.setCell' (p := ⟨w.heap.size, k, none⟩) (Nat.le_refl _) (.int .i64 (max z xn)))
  clear HB4 HR4 HE4 c0 z0 lb CZ
  generalize w4.setCell ⟨w.heap.size, k, none⟩ (.int .i64 (max z xn)) = w5 at HBs HRs HEs ⊢
  go_wp2_with fail
  simp only [Tryd.isAgg59, Tryd.sizeOf59, Result.andThen, ↓reduceIte, run_loadCells_blk HBs.out 65 (by rw [vecV_size]; exact HW.out)]
  rw [Oper.upon_value]
  go_wp2_with fail
  simp only [Tryd.sizeOf59, Result.andThen, ↓reduceIte, run_storeCells_blk HRs.out (by rw [vecV_size, HW.out]; exact vec_size) (by rw [vecV_size, vecV_size, HW.out]; exact (by rfl)) (vecV_one _), show (vecV _).size = 65 from (vecV_size _).trans HW.out]
  rw [Oper.upon_skip]
  go_wp2_with fail
  have HF := hid ((HRs.out).setRow (vecV ((cleanL v).set k (max z xn))))
  exact bodyPost_ret (results_cell_row rfl _ _ (w.heap.size + 1 + 1) 59 _ (0, 0) _ rfl HF.out Tryd.underlying59 rfl (by rw [vecV_size, HW.out]; exact vec_size)) rfl ⟨(by rw [HG.out]), Ext.setRow HEs.out (by omega) _⟩
theorem add13_c (w : World) (v : List Int) (x : Ver) (hv : v.length = 65) : Calls Tryd.prog 76 #[.agg (vecV v), .agg #[.int .i64 x.by_, .int .i64 x.n]] w (Ret (.agg (vecV (addL v x))) w) := by
  obtain ⟨xb, xn⟩ := x
  unfold addL
  cases hr : rightV ⟨xb, xn⟩ with
  | false => exact add13_no w v xb xn hv hr
  | true =>
    have hb : 1 ≤ xb := by unfold rightV at hr; simp only [decide_eq_true_eq] at hr; omega
    obtain ⟨k, rfl⟩ : ∃ k : Nat, xb = k := ⟨xb.toNat, by omega⟩
    exact add13_yes w v k xn hv hr
end Go.Proofs.YtanflgipdiogaaaDoor
