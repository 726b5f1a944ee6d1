/-
  vec.Of.
-/
import Derived.Test.YtanflgipdiogaaaDoorVcB
namespace Go.Proofs.YtanflgipdiogaaaDoor
set_option linter.unusedSimpArgs false
set_option linter.unusedVariables false
open Go.RowKit

def ofL (l : List Ver) : List Int := l.foldl addL vec0
theorem foldl_length (l : List Ver) : ∀ v : List Int, (l.foldl addL v).length = v.length := by
  induction l with
  | nil => intro v; rfl
  | cons x l ih => intro v; rw [List.foldl_cons, ih, addL_length]
theorem ofL_length (l : List Ver) : (ofL l).length = 65 := by unfold ofL; rw [foldl_length]; simp [vec0]
theorem ofL_next {l : List Ver} {k : Nat} (h : k < l.length) : ofL (l.take (k + 1)) = addL (ofL (l.take k)) l[k] := by
  unfold ofL
  rw [List.take_succ_eq_append_getElem h, List.foldl_append]; rfl
attribute [-simp] Tryd.isAgg59 Tryd.sizeOf59
set_option maxRecDepth 100000 in
set_option maxHeartbeats 2000000 in
theorem of13_c (w : World) (v : Value) (l : List Ver) (h : Sl w 2 v (l.map Ver.cells)) : Calls Tryd.prog 41 #[v] w (Ret (.agg (vecV (ofL l))) w) := by
  obtain ⟨A, c, rfl, h1, h2, h3⟩ := sl_get h
  unfold maxLen at h2
  have HA := fun W v x hv => hid (add13_c W v x hv)
  have HR0 := hid ((Blk.new w 59 (vecV vec0)).alloc (.cells (vecV vec0) 59))
  have HB0 := hid (Blk.new (w.alloc (.cells (vecV vec0) 59)) 59 (vecV vec0))
  have HE0 := hid ((Ext.alloc w (.cells (vecV vec0) 59)).alloc' (.cells (vecV vec0) 59))
  rw [World.size_alloc] at HB0
  have H3 := hid h3
  clear h h3
  go_enter Tryd.func41, Tryd.ntmps41
  go_wp2_with fail
  generalize (w.alloc (.cells (vecV vec0) 59)).alloc (.cells (vecV vec0) 59) = w0 at HB0 HR0 HE0 ⊢
  go_loopw [8] (fun s8 wr => ∃ k : Nat, k ≤ l.length ∧ s8 = .int .i64 k ∧ Hid (Ext w wr) ∧ Hid (Blk wr (w.heap.size + 1) 59 (vecV (ofL (l.take k)))) ∧ Hid (Blk wr w.heap.size 59 (vecV vec0))) (fun s8 _ => l.length - (intOf s8).toNat)
  case atStart => exact ⟨0, by omega, rfl, HE0, HB0, HR0⟩
  case round =>
    obtain ⟨k, hk, rfl, hE, hB, hR⟩ := hrel
    clear HB0 HR0 HE0
    by_cases hlt : k < l.length
    · have d1 : decide ((k : Int) < l.length) = true := decide_eq_true (by omega)
      have d1' : decide (k < l.length) = true := decide_eq_true hlt
      obtain ⟨b, o, rfl, lb, hcell⟩ := H3.out (by omega)
      have c0 := hE.out.cell (hcell k hlt 0 _ rfl)
      have c1 := hE.out.cell (hcell k hlt 1 _ rfl)
      rw [Nat.add_zero] at c0
      have lbr := Nat.lt_of_lt_of_le lb hE.out.size
      have HN := hid (ofL_next hlt)
      have HL := hid (ofL_length (l.take k))
      clear H3 hcell
      generalize l[k] = x at c0 c1 HN
      have HAx := fun W => HA W (ofL (l.take k)) x HL.out
      rw [← HN.out] at HAx
      clear HN HA
      have HL1 := hid (ofL_length (l.take (k + 1)))
      generalize hu1 : ofL (l.take (k + 1)) = u1 at HL1 HAx
      have HU1 := hid hu1
      clear hu1
      generalize ofL (l.take k) = u0 at hB HL HAx
      have HB1 := hid (hB.out.ext (Ext.alloc wr (.cells #[.int .i64 x.by_, .int .i64 x.n] 34)))
      have HR1 := hid (hR.out.ext (Ext.alloc wr (.cells #[.int .i64 x.by_, .int .i64 x.n] 34)))
      have HE1 := hid (hE.out.alloc' (.cells #[.int .i64 x.by_, .int .i64 x.n] 34))
      clear hB hR hE
      go_wp2_with fail
      simp only [Tryd.isAgg59, Tryd.sizeOf59, Result.andThen, ↓reduceIte, run_loadCells_blk HB1.out 65 (by rw [vecV_size]; exact HL.out)]
      rw [Oper.upon_value]
      go_wp2_with fail
      refine ((HAx _).out).mono ?_
      rintro en w2 ⟨rfl, x2⟩
      have HB2 := hid (HB1.out.ext x2)
      have HR2 := hid (HR1.out.ext x2)
      have HE2 := hid (HE1.out.trans x2)
      clear HB1 HR1 HE1 x2 c0 c1
      go_wp2_with fail
      simp only [Tryd.sizeOf59, Result.andThen, ↓reduceIte, run_storeCells_blk HB2.out (by rw [vecV_size, HL1.out]; exact vec_size) (by rw [vecV_size, vecV_size, HL1.out]; exact HL.out) (vecV_one _), show (vecV _).size = 65 from (vecV_size _).trans HL1.out]
      rw [Oper.upon_skip]
      have HB3 := hid (HB2.out.setRow (vecV u1))
      have HR3 := hid (HR2.out.farRow (k := w.heap.size + 1) (by omega) (vecV u1))
      have HE3 := hid (HE2.out.setRow (g := w.heap.size + 1) (by omega) (vecV u1))
      generalize w2.setRow (w.heap.size + 1) (vecV u1) = w3 at HB3 HR3 HE3 ⊢
      clear HB2 HR2 HE2
      go_wp2_with fail
      go_roundw
      case rel => exact ⟨k + 1, by omega, by go_num, HE3, by rw [HU1.out]; exact HB3, HR3⟩
      case measure => simp [intOf]; omega
    · obtain rfl : k = l.length := by omega
      rw [List.take_length] at hB
      have HL := hid (ofL_length l)
      clear hlt hk HA H3
      go_wp2_with fail
      simp only [Tryd.isAgg59, Tryd.sizeOf59, Result.andThen, ↓reduceIte, run_loadCells_blk hB.out 65 (by rw [vecV_size]; exact HL.out)]
      rw [Oper.upon_value]
      go_wp2_with fail
      simp only [Tryd.sizeOf59, Result.andThen, ↓reduceIte, run_storeCells_blk hR.out (by rw [vecV_size, HL.out]; exact vec_size) (by rw [vecV_size, vecV_size, HL.out]; exact (by rfl)) (vecV_one _), show (vecV _).size = 65 from (vecV_size _).trans HL.out]
      rw [Oper.upon_skip]
      go_wp2_with fail
      have HF := hid (hR.out.setRow (vecV (ofL l)))
      exact bodyPost_ret (results_cell_row rfl _ _ w.heap.size 59 _ (0, 0) _ rfl HF.out Tryd.underlying59 rfl (by rw [vecV_size, HL.out]; exact vec_size)) rfl ⟨rfl, Ext.setRow hE.out (Nat.le_refl _) _⟩
end Go.Proofs.YtanflgipdiogaaaDoor
