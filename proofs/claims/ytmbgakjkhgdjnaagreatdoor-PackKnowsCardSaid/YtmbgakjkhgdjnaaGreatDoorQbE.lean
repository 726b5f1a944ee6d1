/-
  vec.Add, vec.Of.
  vec.Of.
  vec.Ends.
-/
import Derived.Test.YtmbgakjkhgdjnaaGreatDoorQdI
import Derived.Test.YtmbgakjkhgdjnaaGreatDoorUqVk
import Derived.Test.YtmbgakjkhgdjnaaGreatDoorAwT
import Derived.Test.YtmbgakjkhgdjnaaGreatDoorQdL
import Derived.Test.YtmbgakjkhgdjnaaGreatDoorAppk
namespace Go.Proofs.YtmbgakjkhgdjnaaGreatDoor
set_option linter.unusedSimpArgs false
set_option linter.unusedVariables false
open Go.RowKit

def addL (v : List Int) (x : Ver) : List Int := if rightV x then (cleanL v).set x.by_.toNat (max ((cleanL v).getD x.by_.toNat 0) x.n) else cleanL v
theorem addL_length (v : List Int) (x : Ver) : (addL v x).length = v.length := by
  unfold addL
  split
  · rw [List.length_set, cleanL_length]
  · exact cleanL_length v
attribute [-simp] Tryz.isAgg44 Tryz.sizeOf44
set_option maxRecDepth 100000 in
set_option maxHeartbeats 2000000 in
theorem add13_no (w : World) (v : List Int) (xb xn : Int) (hv : v.length = 65) (hr : rightV ⟨xb, xn⟩ = false) : Calls Tryz.prog 88 #[.agg (vecV v), .agg #[.int .i64 xb, .int .i64 xn]] w (Ret (.agg (vecV (cleanL v))) w) := by
  have HC := fun W => hid (clean13_c W v hv)
  have HK := fun W => hid (vcheck_c ⟨xb, xn⟩ W)
  have HB0 := hid (((Blk.new w 44 (vecV v)).alloc (.cells #[.int .i64 xb, .int .i64 xn] 60)).alloc (.cells (vecV vec0) 44))
  have HX0 := hid ((Blk.new (w.alloc (.cells (vecV v) 44)) 60 #[.int .i64 xb, .int .i64 xn]).alloc (.cells (vecV vec0) 44))
  have HR0 := hid (Blk.new ((w.alloc (.cells (vecV v) 44)).alloc (.cells #[.int .i64 xb, .int .i64 xn] 60)) 44 (vecV vec0))
  have HE0 := hid (((Ext.alloc w (.cells (vecV v) 44)).alloc' (.cells #[.int .i64 xb, .int .i64 xn] 60)).alloc' (.cells (vecV vec0) 44))
  simp only [World.size_alloc] at HX0 HR0
  have HV := hid hv
  have HL : Hid ((cleanL v).length = 65) := by unfold Hid; rw [cleanL_length]; exact hv
  unfold Ver.val at HK
  clear hv
  rw [checkV_no hr] at HK
  clear hr
  go_enter Tryz.func88, Tryz.ntmps88
  go_wp2_with fail
  generalize ((w.alloc (.cells (vecV v) 44)).alloc (.cells #[.int .i64 xb, .int .i64 xn] 60)).alloc (.cells (vecV vec0) 44) = w0 at HB0 HX0 HR0 HE0 ⊢
  simp only [Tryz.isAgg44, Tryz.sizeOf44, Result.andThen, ↓reduceIte, run_loadCells_blk HB0.out 65 (by rw [vecV_size]; exact HV.out)]
  rw [Oper.upon_value]
  go_wp2_with fail
  refine ((HC _).out).mono ?_
  rintro en w1 ⟨rfl, x1⟩
  have HB1 := hid (HB0.out.ext x1)
  have HX1 := hid (HX0.out.ext x1)
  have HR1 := hid (HR0.out.ext x1)
  have HE1 := hid (HE0.out.trans x1)
  clear x1 HB0 HX0 HR0 HE0
  go_wp2_with fail
  simp only [Tryz.sizeOf44, Result.andThen, ↓reduceIte, run_storeCells_blk HB1.out (by rw [vecV_size, HL.out]; exact vec_size) (by rw [vecV_size, vecV_size, HL.out]; exact HV.out) (vecV_one _), show (vecV _).size = 65 from (vecV_size _).trans HL.out]
  rw [Oper.upon_skip]
  have HB2 := hid (HB1.out.setRow (vecV (cleanL v)))
  have HX2 := hid (HX1.out.farRow (k := w.heap.size) (by omega) (vecV (cleanL v)))
  have HR2 := hid (HR1.out.farRow (k := w.heap.size) (by omega) (vecV (cleanL v)))
  have HE2 := hid (HE1.out.setRow (Nat.le_refl _) (vecV (cleanL v)))
  generalize w1.setRow w.heap.size (vecV (cleanL v)) = w2 at HB2 HX2 HR2 HE2 ⊢
  clear HB1 HX1 HR1 HE1
  have a0 := HX2.out.cell (i := 0) (v := .int .i64 xb) rfl
  have a1 := HX2.out.cell (i := 1) (v := .int .i64 xn) rfl
  have la := HX2.out.lt
  go_wp2_with fail
  clear a0 a1 la
  refine ((HK _).out).mono ?_
  rintro en w3 ⟨rfl, x3⟩
  have HB3 := hid (HB2.out.ext x3)
  have HX3 := hid (HX2.out.ext x3)
  have HR3 := hid (HR2.out.ext x3)
  have HE3 := hid (HE2.out.trans x3)
  clear x3 HB2 HX2 HR2 HE2 HK HC
  go_wp2_with fail
  simp only [Tryz.isAgg44, Tryz.sizeOf44, Result.andThen, ↓reduceIte, run_loadCells_blk HB3.out 65 (by rw [vecV_size]; exact HL.out)]
  rw [Oper.upon_value]
  go_wp2_with fail
  simp only [Tryz.sizeOf44, Result.andThen, ↓reduceIte, run_storeCells_blk HR3.out (by rw [vecV_size, HL.out]; exact vec_size) (by rw [vecV_size, vecV_size, HL.out]; exact (by rfl)) (vecV_one _), show (vecV _).size = 65 from (vecV_size _).trans HL.out]
  rw [Oper.upon_skip]
  go_wp2_with fail
  have HF := hid ((HR3.out).setRow (vecV (cleanL v)))
  exact bodyPost_ret (results_cell_row rfl _ _ (w.heap.size + 1 + 1) 44 _ (0, 0) _ rfl HF.out Tryz.underlying44 rfl (by rw [vecV_size, HL.out]; exact vec_size)) rfl ⟨rfl, Ext.setRow HE3.out (by omega) _⟩
set_option maxRecDepth 100000 in
set_option maxHeartbeats 2000000 in
theorem add13_yes (w : World) (v : List Int) (k : Nat) (xn : Int) (hv : v.length = 65) (hr : rightV ⟨k, xn⟩ = true) : Calls Tryz.prog 88 #[.agg (vecV v), .agg #[.int .i64 k, .int .i64 xn]] w (Ret (.agg (vecV ((cleanL v).set k (max ((cleanL v).getD k 0) xn)))) w) := by
  have hk65 : k < 65 := by unfold rightV at hr; simp only [decide_eq_true_eq] at hr; omega
  have HC := fun W => hid (clean13_c W v hv)
  have HK := fun W => hid (vcheck_c ⟨(k : Int), xn⟩ W)
  have HB0 := hid (((Blk.new w 44 (vecV v)).alloc (.cells #[.int .i64 (k : Int), .int .i64 xn] 60)).alloc (.cells (vecV vec0) 44))
  have HX0 := hid ((Blk.new (w.alloc (.cells (vecV v) 44)) 60 #[.int .i64 (k : Int), .int .i64 xn]).alloc (.cells (vecV vec0) 44))
  have HR0 := hid (Blk.new ((w.alloc (.cells (vecV v) 44)).alloc (.cells #[.int .i64 (k : Int), .int .i64 xn] 60)) 44 (vecV vec0))
  have HE0 := hid (((Ext.alloc w (.cells (vecV v) 44)).alloc' (.cells #[.int .i64 (k : Int), .int .i64 xn] 60)).alloc' (.cells (vecV vec0) 44))
  simp only [World.size_alloc] at HX0 HR0
  have HV := hid hv
  have HL : Hid ((cleanL v).length = 65) := by unfold Hid; rw [cleanL_length]; exact hv
  unfold Ver.val at HK
  clear hv
  rw [checkV_yes hr] at HK
  clear hr
  go_enter Tryz.func88, Tryz.ntmps88
  go_wp2_with fail
  generalize ((w.alloc (.cells (vecV v) 44)).alloc (.cells #[.int .i64 (k : Int), .int .i64 xn] 60)).alloc (.cells (vecV vec0) 44) = w0 at HB0 HX0 HR0 HE0 ⊢
  simp only [Tryz.isAgg44, Tryz.sizeOf44, Result.andThen, ↓reduceIte, run_loadCells_blk HB0.out 65 (by rw [vecV_size]; exact HV.out)]
  rw [Oper.upon_value]
  go_wp2_with fail
  refine ((HC _).out).mono ?_
  rintro en w1 ⟨rfl, x1⟩
  have HB1 := hid (HB0.out.ext x1)
  have HX1 := hid (HX0.out.ext x1)
  have HR1 := hid (HR0.out.ext x1)
  have HE1 := hid (HE0.out.trans x1)
  clear x1 HB0 HX0 HR0 HE0
  go_wp2_with fail
  simp only [Tryz.sizeOf44, Result.andThen, ↓reduceIte, run_storeCells_blk HB1.out (by rw [vecV_size, HL.out]; exact vec_size) (by rw [vecV_size, vecV_size, HL.out]; exact HV.out) (vecV_one _), show (vecV _).size = 65 from (vecV_size _).trans HL.out]
  rw [Oper.upon_skip]
  have HB2 := hid (HB1.out.setRow (vecV (cleanL v)))
  have HX2 := hid (HX1.out.farRow (k := w.heap.size) (by omega) (vecV (cleanL v)))
  have HR2 := hid (HR1.out.farRow (k := w.heap.size) (by omega) (vecV (cleanL v)))
  have HE2 := hid (HE1.out.setRow (Nat.le_refl _) (vecV (cleanL v)))
  generalize w1.setRow w.heap.size (vecV (cleanL v)) = w2 at HB2 HX2 HR2 HE2 ⊢
  clear HB1 HX1 HR1 HE1
  have a0 := HX2.out.cell (i := 0) (v := .int .i64 (k : Int)) rfl
  have a1 := HX2.out.cell (i := 1) (v := .int .i64 xn) rfl
  have la := HX2.out.lt
  go_wp2_with fail
  clear a0 a1 la
  refine ((HK _).out).mono ?_
  rintro en w3 ⟨rfl, x3⟩
  have HB3 := hid (HB2.out.ext x3)
  have HX3 := hid (HX2.out.ext x3)
  have HR3 := hid (HR2.out.ext x3)
  have HE3 := hid (HE2.out.trans x3)
  clear x3 HB2 HX2 HR2 HE2 HK HC
  go_wp2_with fail
  have dk : decide ((k : Int) < 65) = true := decide_eq_true (by omega)
  obtain ⟨z, hz⟩ : ∃ z, (cleanL v)[k]? = some z := ⟨_, List.getElem?_eq_getElem (by rw [HL.out]; exact hk65)⟩
  have hg : (cleanL v).getD k 0 = z := by rw [List.getD_eq_getElem?_getD, hz]; rfl
  have HG := hid hg
  have HW : Hid (((cleanL v).set k (max z xn)).length = 65) := by unfold Hid; rw [List.length_set]; exact HL.out
  have HS := hid (vecV_set (cleanL v) k (max z xn))
  have c0 := HB3.out.cell (vecV_get _ _ _ hz)
  have z0 := HB3.out.frozen k
  have lb := HB3.out.lt
  have a0 := HX3.out.cell (i := 0) (v := .int .i64 k) rfl
  have a1 := HX3.out.cell (i := 1) (v := .int .i64 xn) rfl
  have la := HX3.out.lt
  have CZ := hid (vecV_get _ _ _ hz)
  clear hz hg
  refine wp_region_last (Rel.ext) (pre := ?pre8) (z := ?z8) ?hpre8 ?hz8 (Ext.steady _) (by kernel_rfl) (by kernel_rfl) (by kernel_rfl) (by kernel_rfl) ?_
  case hpre8 => (simp only [List.dropLast_cons_cons, List.dropLast_singleton]; first | done | exact rfl)
  case hz8 => (simp only [List.getLast?_cons_cons, List.getLast?_singleton]; first | done | exact rfl)
  repeat (first
    | (refine AWq.val rfl rfl rfl rfl (fun K hK => ?_); go_big_quiet_op; refine hK _ ?_; clear hK K)
    | (refine AWq.skip rfl rfl rfl ?_; simp only [Act.put, List.setIfInBounds_toArray, List.set_cons_succ, List.set_cons_zero]))
  refine AWq.last rfl rfl rfl (fun w4 x4 => ?_)
  simp only [closeAny, Act.put, List.setIfInBounds_toArray, List.set_cons_succ, List.set_cons_zero]
  have HB4 := hid (HB3.out.ext x4)
  have HR4 := hid (HR3.out.ext x4)
  have HE4 := hid (HE3.out.trans x4)
  clear c0 z0 lb a0 a1 la HB3 HX3 HR3 HE3 x4
  have z0 := HB4.out.frozen k
  have c0 := HB4.out.cell CZ.out
  have lb := HB4.out.lt
  go_wp2_with fail
  have HBs := hid (HB4.out.set k (.int .i64 (max z xn)))
  rw [HS.out] at HBs
  have HRs := hid (HR4.out.far (p := ⟨w.heap.size, k, none⟩) (by show w.heap.size + 1 + 1 ≠ w.heap.size; omega) (.int .i64 (max z xn)))
  have HEs := hid (HE4.out.setCell' (p := ⟨w.heap.size, k, none⟩) (Nat.le_refl _) (.int .i64 (max z xn)))
  clear HB4 HR4 HE4 c0 z0 lb CZ
  generalize w4.setCell ⟨w.heap.size, k, none⟩ (.int .i64 (max z xn)) = w5 at HBs HRs HEs ⊢
  go_wp2_with fail
  simp only [Tryz.isAgg44, Tryz.sizeOf44, Result.andThen, ↓reduceIte, run_loadCells_blk HBs.out 65 (by rw [vecV_size]; exact HW.out)]
  rw [Oper.upon_value]
  go_wp2_with fail
  simp only [Tryz.sizeOf44, Result.andThen, ↓reduceIte, run_storeCells_blk HRs.out (by rw [vecV_size, HW.out]; exact vec_size) (by rw [vecV_size, vecV_size, HW.out]; exact (by rfl)) (vecV_one _), show (vecV _).size = 65 from (vecV_size _).trans HW.out]
  rw [Oper.upon_skip]
  go_wp2_with fail
  have HF := hid ((HRs.out).setRow (vecV ((cleanL v).set k (max z xn))))
  exact bodyPost_ret (results_cell_row rfl _ _ (w.heap.size + 1 + 1) 44 _ (0, 0) _ rfl HF.out Tryz.underlying44 rfl (by rw [vecV_size, HW.out]; exact vec_size)) rfl ⟨(by rw [HG.out]), Ext.setRow HEs.out (by omega) _⟩
theorem add13_c (w : World) (v : List Int) (x : Ver) (hv : v.length = 65) : Calls Tryz.prog 88 #[.agg (vecV v), .agg #[.int .i64 x.by_, .int .i64 x.n]] w (Ret (.agg (vecV (addL v x))) w) := by
  obtain ⟨xb, xn⟩ := x
  unfold addL
  cases hr : rightV ⟨xb, xn⟩ with
  | false => exact add13_no w v xb xn hv hr
  | true =>
    have hb : 1 ≤ xb := by unfold rightV at hr; simp only [decide_eq_true_eq] at hr; omega
    obtain ⟨k, rfl⟩ : ∃ k : Nat, xb = k := ⟨xb.toNat, by omega⟩
    exact add13_yes w v k xn hv hr
end Go.Proofs.YtmbgakjkhgdjnaaGreatDoor
namespace Go.Proofs.YtmbgakjkhgdjnaaGreatDoor
set_option linter.unusedSimpArgs false
set_option linter.unusedVariables false
open Go.RowKit

def ofL (l : List Ver) : List Int := l.foldl addL vec0
theorem foldl_length (l : List Ver) : ∀ v : List Int, (l.foldl addL v).length = v.length := by
  induction l with
  | nil => intro v; rfl
  | cons x l ih => intro v; rw [List.foldl_cons, ih, addL_length]
theorem ofL_length (l : List Ver) : (ofL l).length = 65 := by unfold ofL; rw [foldl_length]; simp [vec0]
theorem ofL_next {l : List Ver} {k : Nat} (h : k < l.length) : ofL (l.take (k + 1)) = addL (ofL (l.take k)) l[k] := by
  unfold ofL
  rw [List.take_succ_eq_append_getElem h, List.foldl_append]; rfl
attribute [-simp] Tryz.isAgg44 Tryz.sizeOf44
set_option maxRecDepth 100000 in
set_option maxHeartbeats 2000000 in
theorem of13_c (w : World) (v : Value) (l : List Ver) (h : Sl w 2 v (l.map Ver.cells)) : Calls Tryz.prog 33 #[v] w (Ret (.agg (vecV (ofL l))) w) := by
  obtain ⟨A, c, rfl, h1, h2, h3⟩ := sl_get h
  unfold maxLen at h2
  have HA := fun W v x hv => hid (add13_c W v x hv)
  have HR0 := hid ((Blk.new w 44 (vecV vec0)).alloc (.cells (vecV vec0) 44))
  have HB0 := hid (Blk.new (w.alloc (.cells (vecV vec0) 44)) 44 (vecV vec0))
  have HE0 := hid ((Ext.alloc w (.cells (vecV vec0) 44)).alloc' (.cells (vecV vec0) 44))
  rw [World.size_alloc] at HB0
  have H3 := hid h3
  clear h h3
  go_enter Tryz.func33, Tryz.ntmps33
  go_wp2_with fail
  generalize (w.alloc (.cells (vecV vec0) 44)).alloc (.cells (vecV vec0) 44) = w0 at HB0 HR0 HE0 ⊢
  go_loopw [8] (fun s8 wr => ∃ k : Nat, k ≤ l.length ∧ s8 = .int .i64 k ∧ Hid (Ext w wr) ∧ Hid (Blk wr (w.heap.size + 1) 44 (vecV (ofL (l.take k)))) ∧ Hid (Blk wr w.heap.size 44 (vecV vec0))) (fun s8 _ => l.length - (intOf s8).toNat)
  case atStart => exact ⟨0, by omega, rfl, HE0, HB0, HR0⟩
  case round =>
    obtain ⟨k, hk, rfl, hE, hB, hR⟩ := hrel
    clear HB0 HR0 HE0
    by_cases hlt : k < l.length
    · have d1 : decide ((k : Int) < l.length) = true := decide_eq_true (by omega)
      have d1' : decide (k < l.length) = true := decide_eq_true hlt
      obtain ⟨b, o, rfl, lb, hcell⟩ := H3.out (by omega)
      have c0 := hE.out.cell (hcell k hlt 0 _ rfl)
      have c1 := hE.out.cell (hcell k hlt 1 _ rfl)
      rw [Nat.add_zero] at c0
      have lbr := Nat.lt_of_lt_of_le lb hE.out.size
      have HN := hid (ofL_next hlt)
      have HL := hid (ofL_length (l.take k))
      clear H3 hcell
      generalize l[k] = x at c0 c1 HN
      have HAx := fun W => HA W (ofL (l.take k)) x HL.out
      rw [← HN.out] at HAx
      clear HN HA
      have HL1 := hid (ofL_length (l.take (k + 1)))
      generalize hu1 : ofL (l.take (k + 1)) = u1 at HL1 HAx
      have HU1 := hid hu1
      clear hu1
      generalize ofL (l.take k) = u0 at hB HL HAx
      have HB1 := hid (hB.out.ext (Ext.alloc wr (.cells #[.int .i64 x.by_, .int .i64 x.n] 60)))
      have HR1 := hid (hR.out.ext (Ext.alloc wr (.cells #[.int .i64 x.by_, .int .i64 x.n] 60)))
      have HE1 := hid (hE.out.alloc' (.cells #[.int .i64 x.by_, .int .i64 x.n] 60))
      clear hB hR hE
      go_wp2_with fail
      simp only [Tryz.isAgg44, Tryz.sizeOf44, Result.andThen, ↓reduceIte, run_loadCells_blk HB1.out 65 (by rw [vecV_size]; exact HL.out)]
      rw [Oper.upon_value]
      go_wp2_with fail
      refine ((HAx _).out).mono ?_
      rintro en w2 ⟨rfl, x2⟩
      have HB2 := hid (HB1.out.ext x2)
      have HR2 := hid (HR1.out.ext x2)
      have HE2 := hid (HE1.out.trans x2)
      clear HB1 HR1 HE1 x2 c0 c1
      go_wp2_with fail
      simp only [Tryz.sizeOf44, Result.andThen, ↓reduceIte, run_storeCells_blk HB2.out (by rw [vecV_size, HL1.out]; exact vec_size) (by rw [vecV_size, vecV_size, HL1.out]; exact HL.out) (vecV_one _), show (vecV _).size = 65 from (vecV_size _).trans HL1.out]
      rw [Oper.upon_skip]
      have HB3 := hid (HB2.out.setRow (vecV u1))
      have HR3 := hid (HR2.out.farRow (k := w.heap.size + 1) (by omega) (vecV u1))
      have HE3 := hid (HE2.out.setRow (g := w.heap.size + 1) (by omega) (vecV u1))
      generalize w2.setRow (w.heap.size + 1) (vecV u1) = w3 at HB3 HR3 HE3 ⊢
      clear HB2 HR2 HE2
      go_wp2_with fail
      go_roundw
      case rel => exact ⟨k + 1, by omega, by go_num, HE3, by rw [HU1.out]; exact HB3, HR3⟩
      case measure => simp [intOf]; omega
    · obtain rfl : k = l.length := by omega
      rw [List.take_length] at hB
      have HL := hid (ofL_length l)
      clear hlt hk HA H3
      go_wp2_with fail
      simp only [Tryz.isAgg44, Tryz.sizeOf44, Result.andThen, ↓reduceIte, run_loadCells_blk hB.out 65 (by rw [vecV_size]; exact HL.out)]
      rw [Oper.upon_value]
      go_wp2_with fail
      simp only [Tryz.sizeOf44, Result.andThen, ↓reduceIte, run_storeCells_blk hR.out (by rw [vecV_size, HL.out]; exact vec_size) (by rw [vecV_size, vecV_size, HL.out]; exact (by rfl)) (vecV_one _), show (vecV _).size = 65 from (vecV_size _).trans HL.out]
      rw [Oper.upon_skip]
      go_wp2_with fail
      have HF := hid (hR.out.setRow (vecV (ofL l)))
      exact bodyPost_ret (results_cell_row rfl _ _ w.heap.size 44 _ (0, 0) _ rfl HF.out Tryz.underlying44 rfl (by rw [vecV_size, HL.out]; exact vec_size)) rfl ⟨rfl, Ext.setRow hE.out (Nat.le_refl _) _⟩
end Go.Proofs.YtmbgakjkhgdjnaaGreatDoor
namespace Go.Proofs.YtmbgakjkhgdjnaaGreatDoor
set_option linter.unusedSimpArgs false
set_option linter.unusedVariables false
open Go.RowKit

theorem vr_coded : Coded Ver.cells 2 := ⟨fun _ => rfl, fun a u hu => by simp [Ver.cells] at hu; rcases hu with rfl | rfl <;> rfl⟩
theorem vr_info : (Tryz.prog.info? 60).map (fun i => (i.zero, i.size, i.bytes)) = some (some (.agg #[.int .i64 0, .int .i64 0]), 2, 16) := by kernel_rfl
theorem vr_elem : Elem Tryz.prog 45 60 2 16 := by
  obtain ⟨i0, h0, h1, h2, h3⟩ := info_parts vr_info
  exact ⟨Tryz.underlying45, i0, _, h0, h1, h2, h3, rfl⟩
def endsK (u : List Int) : Nat → List Ver
  | 0 => []
  | k + 1 => if 0 < u.getD k 0 then endsK u k ++ [⟨k, u.getD k 0⟩] else endsK u k
def endsL (v : List Int) : List Ver := endsK (cleanL v) 65
theorem endsK_len (u : List Int) : ∀ k, (endsK u k).length ≤ k
  | 0 => Nat.le_refl _
  | k + 1 => by
    have := endsK_len u k
    unfold endsK
    split
    · rw [List.length_append]; simp; omega
    · omega
attribute [-simp] Tryz.isAgg44 Tryz.sizeOf44
set_option maxRecDepth 100000 in
set_option maxHeartbeats 4000000 in
theorem ends13_c (w : World) (v : List Int) (hv : v.length = 65) : Calls Tryz.prog 90 #[.agg (vecV v)] w (RetQ (RowAt Ver.cells 2 (endsL v)) w) := by
  have HC := fun W => hid (clean13_c W v hv)
  have HB0 := hid (Blk.new w 44 (vecV v))
  have HE0 := hid (Ext.alloc w (.cells (vecV v) 44))
  have HL : Hid ((cleanL v).length = 65) := by unfold Hid; rw [cleanL_length]; exact hv
  have HV := hid hv
  clear hv
  unfold endsL
  generalize cleanL v = u at HC HL ⊢
  go_enter Tryz.func90, Tryz.ntmps90
  go_wp2_with fail
  generalize w.alloc (.cells (vecV v) 44) = w0 at HB0 HE0 ⊢
  simp only [Tryz.isAgg44, Tryz.sizeOf44, Result.andThen, ↓reduceIte, run_loadCells_blk HB0.out 65 (by rw [vecV_size]; exact HV.out)]
  rw [Oper.upon_value]
  go_wp2_with fail
  refine ((HC _).out).mono ?_
  rintro en w1 ⟨rfl, x1⟩
  have HE1 := hid (HE0.out.trans x1)
  clear x1 HB0 HE0 HC HV
  go_wp2_with fail
  go_loopw [3, 8] (fun s3 s8 wr => ∃ (k : Nat) (ov : Value), ov = s3 ∧ k ≤ 65 ∧ s8 = .int .i64 k ∧ Ext w wr ∧ ((endsK u k).length = 0 → s3 = .slice none 0 0) ∧ wr.ownsRow w.heap.size 60 2 s3 (endsK u k).length ((endsK u k).map Ver.cells).flatten) (fun _ s8 _ => 65 - (intOf s8).toNat)
  case atStart => exact ⟨0, _, rfl, by omega, rfl, HE1.out, (fun _ => rfl), ownsRow_nil _ _ _ _⟩
  case round =>
    obtain ⟨k, s3, rfl, hk, rfl, hE, hz, hO⟩ := hrel
    have HE := hid hE
    have HO := hid hO
    have HZ := hid hz
    clear HE1 hE hz hO
    by_cases hlt : k < 65
    · have d1 : decide ((k : Int) < 65) = true := decide_eq_true (by omega)
      have d1' : decide (k < 65) = true := decide_eq_true hlt
      obtain ⟨z, hzk⟩ : ∃ z, u[k]? = some z := ⟨_, List.getElem?_eq_getElem (by rw [HL.out]; exact hlt)⟩
      have hix := fun W => run_index_vec u k z hlt hzk W
      have hg : u.getD k 0 = z := by rw [List.getD_eq_getElem?_getD, hzk]; rfl
      have HM : Hid (endsK u (k + 1) = if 0 < z then endsK u k ++ [⟨k, z⟩] else endsK u k) := by unfold Hid; rw [endsK, hg]
      have hln := endsK_len u k
      clear hg hzk
      generalize endsK u k = acc at HO HZ HM hln
      by_cases hp : 0 < z
      · have dp : decide (0 < z) = true := decide_eq_true hp
        rw [if_pos hp] at HM
        clear hp
        go_wp2_with (at_builtin; obtain ⟨v', w6, hrun6, ho6, hk6, _⟩ := app_one (P := Tryz.prog) vr_elem vr_coded HO.out HE.out.size (⟨k, z⟩ : Ver) (by omega) (by omega); simp only [Ver.cells] at hrun6; have HE6 := hid (hk6.toExt HE.out (fun q hq => (row_block HO.out q hq).1)); have HO6 := hid ho6; clear ho6 hk6; refine wpList_app rfl (.tmp 14) (.tmp 18) _ _ rfl rfl rfl hrun6 ?_)
        go_roundw
        case rel => exact ⟨k + 1, _, rfl, by omega, by go_num, HE6.out, (fun h => by rw [HM.out] at h; simp at h), by rw [HM.out]; exact HO6.out⟩
        case measure => simp [intOf]; omega
      · have dp : decide (0 < z) = false := decide_eq_false hp
        rw [if_neg hp] at HM
        clear hp
        go_wp2_with fail
        go_roundw
        case rel => exact ⟨k + 1, _, rfl, by omega, by go_num, HE.out, (by rw [HM.out]; exact HZ.out), by rw [HM.out]; exact HO.out⟩
        case measure => simp [intOf]; omega
    · obtain rfl : k = 65 := by omega
      have hrow := RowAt.of_row vr_coded HO.out HZ.out
      have HR := hid hrow
      clear hrow HO HZ hlt hk
      go_wp2_with fail
      go_ret
      exact ⟨_, rfl, HR.out, HE.out⟩
end Go.Proofs.YtmbgakjkhgdjnaaGreatDoor
