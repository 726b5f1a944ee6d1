/-
  Vectors: arrays of 65 numbers, by value: laws on whole rows; vec.Clean.
-/
import Derived.Test.YtanflgipdiogaaaDoorProg
import Derived.Test.YtanflgipdiogaaaDoorBase
import Derived.Deep.WholeRow
namespace Go.Proofs.YtanflgipdiogaaaDoor
set_option linter.unusedSimpArgs false
set_option linter.unusedVariables false
open Go.RowKit

/-- A whole row is turned. -/
theorem Blk.setRow {w : World} {g : Nat} {t : TypeId} {cs : Array Value} (h : Blk w g t cs) (cs' : Array Value) : Blk (w.setRow g cs') g t cs' := setRow_heap w g cs cs' t (0, 0) h
theorem Blk.farRow {w : World} {g k : Nat} {t : TypeId} {cs : Array Value} (h : Blk w g t cs) (hk : g ≠ k) (cs' : Array Value) : Blk (w.setRow k cs') g t cs := (setRow_other w k g cs' hk).trans h
theorem Keep.setRow {S : Nat → Prop} {a b : World} (h : Keep S a b) {g : Nat} (hg : S g ∨ a.heap.size ≤ g) (cs : Array Value) : Keep S a (b.setRow g cs) :=
  ⟨h.os, h.tape, h.output, by have := h.size; simpa using this, fun k hk hs => by
    rw [setRow_other b g k cs (by rintro rfl; rcases hg with hg | hg; exact hs hg; omega)]; exact h.block k hk hs⟩
theorem Ext.setRow {a b : World} (h : Ext a b) {g : Nat} (hg : a.heap.size ≤ g) (cs : Array Value) : Ext a (b.setRow g cs) := Below.trans h ⟨rfl, rfl, rfl, by simp [World.setRow], fun k hk => setRow_other b g k cs (by omega)⟩
theorem run_loadCells_blk {P : Program} {w : World} {g : Nat} {t : TypeId} {cs : Array Value} (h : Blk w g t cs) (n : Nat) (hn : cs.size = n) : (loadCellsFrom ⟨g, 0, none⟩ 0 n #[]).run P w = .ok cs w := by
  subst hn
  have := run_loadCells_list (P := P) w ⟨g, 0, none⟩ cs.toList (fun j v hv => by
    have hadd : (⟨g, 0, none⟩ : Addr).add j = ⟨g, j, none⟩ := by unfold Addr.add; split <;> simp_all
    rw [hadd, cell_of_row _ _ j cs t (0, 0) h]
    simpa using hv)
  simpa [loadCells] using this
theorem run_storeCells_blk {P : Program} {w : World} {g : Nat} {t : TypeId} {cs cs' : Array Value} (h : Blk w g t cs) (hi : (P.info? t).map (·.size) = some cs'.size) (ho : cs.size = cs'.size) (h1 : cs'.all (·.oneCell') = true) : (storeCells ⟨g, 0, none⟩ cs'.toList 0).run P w = .ok () (w.setRow g cs') := by
  have := run_storeVar_row (P := P) w g t t cs cs' h hi ho h1
  cases hq : P.info? t with
  | none => simp [hq] at hi
  | some i =>
    have hs : cs'.size = i.size := by simp [hq] at hi; omega
    simpa [storeVar, sizeOf, typeInfo, hq, Value.cells, hs] using this
/-- A vector's value. -/
def vecV (v : List Int) : Array Value := (v.map (Value.int .i64)).toArray
theorem vecV_size (v : List Int) : (vecV v).size = v.length := by simp [vecV]
theorem vecV_one (v : List Int) : (vecV v).all (·.oneCell') = true := by
  rw [Array.all_eq_true_iff_forall_mem]
  intro x hx
  simp only [vecV, List.mem_toArray, List.mem_map] at hx
  obtain ⟨z, _, rfl⟩ := hx
  rfl
theorem vecV_get (v : List Int) (k : Nat) (z : Int) (h : v[k]? = some z) : (vecV v)[k]? = some (.int .i64 z) := by
  simp [vecV, h]
theorem vecV_set (v : List Int) (k : Nat) (z : Int) : (vecV v).setIfInBounds k (.int .i64 z) = vecV (v.set k z) := by
  apply Array.ext'
  simp [vecV, List.map_set]
theorem vec_info : (Tryd.prog.info? 59).map (fun i => (i.zero, i.size)) = some (some (.agg (Array.replicate 65 (.int .i64 0))), 65) := by kernel_rfl
theorem vec_zero (w : World) : (zeroValue 59).run Tryd.prog w = .ok (.agg (Array.replicate 65 (.int .i64 0))) w := (zero_of_info vec_info).1 w
theorem vec_size : (Tryd.prog.info? 59).map (·.size) = some 65 := (zero_of_info vec_info).2
def vec0 : List Int := List.replicate 65 0
theorem vec0_V : Array.replicate 65 (Value.int .i64 0) = vecV vec0 := by
  apply Array.ext'
  simp [vecV, vec0]
theorem vec0_cells : Tryd.zeroCells59 = vecV vec0 := by
  rw [← vec0_V]; kernel_rfl
attribute [simp] vec0_cells
theorem run_index_vec (u : List Int) (k : Nat) (z : Int) (hk : k < 65) (h : u[k]? = some z) (w : World) : (Instr.index 59 (.agg (vecV u)) (.int .i64 k)).run Tryd.prog w = .ok (.int .i64 z) w := by
  have h1 := vecV_get u k z h
  have h2 : (k : Int) < 65 := by omega
  simp [Instr.index, asIntOf, go_sem, part, h1, h2]
  intro h9; omega
/-- A vector as it counts. -/
def cleanL (v : List Int) : List Int := (v.set 0 0).map fun n => max n 0
theorem cleanL_length (v : List Int) : (cleanL v).length = v.length := by simp [cleanL]
def stepL (v : List Int) (k : Nat) : List Int := ((v.set 0 0).take k).map (fun n => max n 0) ++ (v.set 0 0).drop k
theorem stepL_length (v : List Int) (k : Nat) : (stepL v k).length = v.length := by
  unfold stepL
  rw [List.length_append, List.length_map, List.length_take, List.length_drop, List.length_set]
  omega
theorem stepL_next {v : List Int} {k : Nat} {z : Int} (h : (v.set 0 0)[k]? = some z) : (stepL v k).set k (max z 0) = stepL v (k + 1) := by
  obtain ⟨hk, hz⟩ := List.getElem?_eq_some_iff.1 h
  unfold stepL
  have hlen : (List.map (fun n => max n 0) (List.take k (v.set 0 0))).length = k := by
    rw [List.length_map, List.length_take]; omega
  rw [List.drop_eq_getElem_cons hk, List.take_succ_eq_append_getElem hk, hz, List.set_append_right (h := by omega), List.map_append]
  rw [hlen, Nat.sub_self]
  simp
theorem stepL_zero (v : List Int) : stepL v 0 = v.set 0 0 := by simp [stepL]
theorem stepL_all (v : List Int) : stepL v v.length = cleanL v := by
  unfold stepL cleanL
  rw [List.take_of_length_le (by simp), List.drop_of_length_le (by simp)]; simp
attribute [-simp] Tryd.isAgg59 Tryd.sizeOf59
set_option maxRecDepth 100000 in
set_option maxHeartbeats 1000000 in
theorem clean13_c (w : World) (v : List Int) (hv : v.length = 65) : Calls Tryd.prog 80 #[.agg (vecV v)] w (Ret (.agg (vecV (cleanL v))) w) := by
  obtain ⟨z0, h0⟩ : ∃ z0, (vecV v)[0]? = some (.int .i64 z0) := ⟨_, vecV_get v 0 _ (List.getElem?_eq_getElem (by omega))⟩
  have HS := hid (fun z => vecV_set v 0 z)
  have HV := hid hv
  clear hv
  go_enter Tryd.func80, Tryd.ntmps80
  go_wp2_with fail
  rw [HS.out]
  have HB : Hid (Blk ((w.alloc (.cells (vecV (v.set 0 0)) 59)).alloc (.cells (vecV vec0) 59)) w.heap.size 59 (vecV (v.set 0 0))) := (Blk.new w _ _).alloc _
  have HR : Hid (Blk ((w.alloc (.cells (vecV (v.set 0 0)) 59)).alloc (.cells (vecV vec0) 59)) (w.heap.size + 1) 59 (vecV vec0)) := by
    have := Blk.new (w.alloc (.cells (vecV (v.set 0 0)) 59)) 59 (vecV vec0)
    rw [World.size_alloc] at this
    exact this
  have HE : Hid (Ext w ((w.alloc (.cells (vecV (v.set 0 0)) 59)).alloc (.cells (vecV vec0) 59))) := (Ext.alloc _ _).alloc' _
  generalize (w.alloc (.cells (vecV (v.set 0 0)) 59)).alloc (.cells (vecV vec0) 59) = w0 at HB HR HE ⊢
  simp only [Tryd.isAgg59, Tryd.sizeOf59, Result.andThen, ↓reduceIte, run_loadCells_blk HB.out 65 (by rw [vecV_size]; exact (by rw [List.length_set]; exact HV.out))]
  rw [Oper.upon_value]
  clear h0 HS
  go_wp2_with fail
  go_loopw [7] (fun s7 wr => ∃ k : Nat, k ≤ 65 ∧ s7 = .int .i64 k ∧ Hid (Ext w wr) ∧ Hid (Blk wr w.heap.size 59 (vecV (stepL v k))) ∧ Hid (Blk wr (w.heap.size + 1) 59 (vecV vec0))) (fun s7 _ => 65 - (intOf s7).toNat)
  case atStart => exact ⟨0, by omega, rfl, HE, by rw [stepL_zero]; exact HB, HR⟩
  case round =>
    obtain ⟨k, hk, rfl, hE, hB, hR⟩ := hrel
    clear HB HR HE
    by_cases hlt : k < 65
    · have d1 : decide ((k : Int) < 65) = true := decide_eq_true (by omega)
      have d1' : decide (k < 65) = true := decide_eq_true hlt
      obtain ⟨z, hz⟩ : ∃ z, (v.set 0 0)[k]? = some z := ⟨_, List.getElem?_eq_getElem (by rw [List.length_set, HV.out]; exact hlt)⟩
      have hc := vecV_get _ _ _ hz
      have HN := hid (stepL_next hz)
      obtain ⟨y, hy⟩ : ∃ y, (stepL v k)[k]? = some y := ⟨_, List.getElem?_eq_getElem (by rw [stepL_length, HV.out]; exact hlt)⟩
      have c0 := hB.out.cell (vecV_get _ _ _ hy)
      have z0 := hB.out.frozen k
      have l0 := hB.out.lt
      have hix := fun W => run_index_vec (v.set 0 0) k z hlt hz W
      clear hz hy
      go_wp2_with fail
      go_roundw
      case rel => exact ⟨k + 1, by omega, by go_num, hE.out.setCell' (p := ⟨w.heap.size, k, none⟩) (Nat.le_refl _) _, by
          have := hB.out.set k (.int .i64 (max z 0))
          rw [vecV_set, HN.out] at this
          exact this, hR.out.far (p := ⟨w.heap.size, k, none⟩) (by show w.heap.size + 1 ≠ w.heap.size; omega) _⟩
      case measure => simp [intOf]; omega
    · obtain rfl : k = 65 := by omega
      rw [← HV.out, stepL_all] at hB
      have HL : Hid ((cleanL v).length = 65) := by unfold Hid; rw [cleanL_length]; exact HV.out
      clear hlt hk HV
      go_wp2_with fail
      simp only [Tryd.isAgg59, Tryd.sizeOf59, Result.andThen, ↓reduceIte, run_loadCells_blk hB.out 65 (by rw [vecV_size]; exact HL.out)]
      rw [Oper.upon_value]
      go_wp2_with fail
      simp only [Tryd.sizeOf59, Result.andThen, ↓reduceIte, run_storeCells_blk hR.out (by rw [vecV_size, HL.out]; exact vec_size) (by rw [vecV_size, vecV_size, HL.out]; exact (by rfl)) (vecV_one _), show (vecV _).size = 65 from (vecV_size _).trans HL.out]
      rw [Oper.upon_skip]
      go_wp2_with fail
      have HF := hid (hR.out.setRow (vecV (cleanL v)))
      exact bodyPost_ret (results_cell_row rfl _ _ (w.heap.size + 1) 59 _ (0, 0) _ rfl HF.out Tryd.underlying59 rfl (by rw [vecV_size, HL.out]; exact vec_size)) rfl ⟨rfl, Ext.setRow hE.out (by omega) _⟩
end Go.Proofs.YtanflgipdiogaaaDoor
