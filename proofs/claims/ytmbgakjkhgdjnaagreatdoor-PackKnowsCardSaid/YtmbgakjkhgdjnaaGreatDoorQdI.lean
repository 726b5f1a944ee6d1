/-
  Vectors: arrays of 65 numbers, by value: laws on whole rows; vec.Clean.
  '==' of vectors; a whole row loaded in a drawn region.
-/
import Derived.Test.YtmbgakjkhgdjnaaGreatDoorProg
import Derived.Test.YtmbgakjkhgdjnaaGreatDoorQdL
import Derived.Deep.WholeRow
import Derived.ChangeKeysEq
namespace Go.Proofs.YtmbgakjkhgdjnaaGreatDoor
set_option linter.unusedSimpArgs false
set_option linter.unusedVariables false
open Go.RowKit

/-- A whole row is turned. -/
theorem Blk.setRow {w : World} {g : Nat} {t : TypeId} {cs : Array Value} (h : Blk w g t cs) (cs' : Array Value) : Blk (w.setRow g cs') g t cs' := setRow_heap w g cs cs' t (0, 0) h
theorem Blk.farRow {w : World} {g k : Nat} {t : TypeId} {cs : Array Value} (h : Blk w g t cs) (hk : g ≠ k) (cs' : Array Value) : Blk (w.setRow k cs') g t cs := (setRow_other w k g cs' hk).trans h
theorem Keep.setRow {S : Nat → Prop} {a b : World} (h : Keep S a b) {g : Nat} (hg : S g ∨ a.heap.size ≤ g) (cs : Array Value) : Keep S a (b.setRow g cs) :=
  ⟨h.os, h.tape, h.output, by have := h.size; simpa using this, fun k hk hs => by
    rw [setRow_other b g k cs (by rintro rfl; rcases hg with hg | hg; exact hs hg; omega)]; exact h.block k hk hs⟩
theorem Ext.setRow {a b : World} (h : Ext a b) {g : Nat} (hg : a.heap.size ≤ g) (cs : Array Value) : Ext a (b.setRow g cs) := Below.trans h ⟨rfl, rfl, rfl, by simp [World.setRow], fun k hk => setRow_other b g k cs (by omega)⟩
theorem run_loadCells_blk {P : Program} {w : World} {g : Nat} {t : TypeId} {cs : Array Value} (h : Blk w g t cs) (n : Nat) (hn : cs.size = n) : (loadCellsFrom ⟨g, 0, none⟩ 0 n #[]).run P w = .ok cs w := by
  subst hn
  have := run_loadCells_list (P := P) w ⟨g, 0, none⟩ cs.toList (fun j v hv => by
    have hadd : (⟨g, 0, none⟩ : Addr).add j = ⟨g, j, none⟩ := by unfold Addr.add; split <;> simp_all
    rw [hadd, cell_of_row _ _ j cs t (0, 0) h]
    simpa using hv)
  simpa [loadCells] using this
theorem run_storeCells_blk {P : Program} {w : World} {g : Nat} {t : TypeId} {cs cs' : Array Value} (h : Blk w g t cs) (hi : (P.info? t).map (·.size) = some cs'.size) (ho : cs.size = cs'.size) (h1 : cs'.all (·.oneCell') = true) : (storeCells ⟨g, 0, none⟩ cs'.toList 0).run P w = .ok () (w.setRow g cs') := by
  have := run_storeVar_row (P := P) w g t t cs cs' h hi ho h1
  cases hq : P.info? t with
  | none => simp [hq] at hi
  | some i =>
    have hs : cs'.size = i.size := by simp [hq] at hi; omega
    simpa [storeVar, sizeOf, typeInfo, hq, Value.cells, hs] using this
/-- A vector's value. -/
def vecV (v : List Int) : Array Value := (v.map (Value.int .i64)).toArray
theorem vecV_size (v : List Int) : (vecV v).size = v.length := by simp [vecV]
theorem vecV_one (v : List Int) : (vecV v).all (·.oneCell') = true := by
  rw [Array.all_eq_true_iff_forall_mem]
  intro x hx
  simp only [vecV, List.mem_toArray, List.mem_map] at hx
  obtain ⟨z, _, rfl⟩ := hx
  rfl
theorem vecV_get (v : List Int) (k : Nat) (z : Int) (h : v[k]? = some z) : (vecV v)[k]? = some (.int .i64 z) := by
  simp [vecV, h]
theorem vecV_set (v : List Int) (k : Nat) (z : Int) : (vecV v).setIfInBounds k (.int .i64 z) = vecV (v.set k z) := by
  apply Array.ext'
  simp [vecV, List.map_set]
theorem vec_info : (Tryz.prog.info? 44).map (fun i => (i.zero, i.size)) = some (some (.agg (Array.replicate 65 (.int .i64 0))), 65) := by kernel_rfl
theorem vec_zero (w : World) : (zeroValue 44).run Tryz.prog w = .ok (.agg (Array.replicate 65 (.int .i64 0))) w := (zero_of_info vec_info).1 w
theorem vec_size : (Tryz.prog.info? 44).map (·.size) = some 65 := (zero_of_info vec_info).2
def vec0 : List Int := List.replicate 65 0
theorem vec0_V : Array.replicate 65 (Value.int .i64 0) = vecV vec0 := by
  apply Array.ext'
  simp [vecV, vec0]
theorem vec0_cells : Tryz.zeroCells44 = vecV vec0 := by
  rw [← vec0_V]; kernel_rfl
attribute [simp] vec0_cells
theorem run_index_vec (u : List Int) (k : Nat) (z : Int) (hk : k < 65) (h : u[k]? = some z) (w : World) : (Instr.index 44 (.agg (vecV u)) (.int .i64 k)).run Tryz.prog w = .ok (.int .i64 z) w := by
  have h1 := vecV_get u k z h
  have h2 : (k : Int) < 65 := by omega
  simp [Instr.index, asIntOf, go_sem, part, h1, h2]
  intro h9; omega
/-- A vector as it counts. -/
def cleanL (v : List Int) : List Int := (v.set 0 0).map fun n => max n 0
theorem cleanL_length (v : List Int) : (cleanL v).length = v.length := by simp [cleanL]
def stepL (v : List Int) (k : Nat) : List Int := ((v.set 0 0).take k).map (fun n => max n 0) ++ (v.set 0 0).drop k
theorem stepL_length (v : List Int) (k : Nat) : (stepL v k).length = v.length := by
  unfold stepL
  rw [List.length_append, List.length_map, List.length_take, List.length_drop, List.length_set]
  omega
theorem stepL_next {v : List Int} {k : Nat} {z : Int} (h : (v.set 0 0)[k]? = some z) : (stepL v k).set k (max z 0) = stepL v (k + 1) := by
  obtain ⟨hk, hz⟩ := List.getElem?_eq_some_iff.1 h
  unfold stepL
  have hlen : (List.map (fun n => max n 0) (List.take k (v.set 0 0))).length = k := by
    rw [List.length_map, List.length_take]; omega
  rw [List.drop_eq_getElem_cons hk, List.take_succ_eq_append_getElem hk, hz, List.set_append_right (h := by omega), List.map_append]
  rw [hlen, Nat.sub_self]
  simp
theorem stepL_zero (v : List Int) : stepL v 0 = v.set 0 0 := by simp [stepL]
theorem stepL_all (v : List Int) : stepL v v.length = cleanL v := by
  unfold stepL cleanL
  rw [List.take_of_length_le (by simp), List.drop_of_length_le (by simp)]; simp
attribute [-simp] Tryz.isAgg44 Tryz.sizeOf44
set_option maxRecDepth 100000 in
set_option maxHeartbeats 1000000 in
theorem clean13_c (w : World) (v : List Int) (hv : v.length = 65) : Calls Tryz.prog 92 #[.agg (vecV v)] w (Ret (.agg (vecV (cleanL v))) w) := by
  obtain ⟨z0, h0⟩ : ∃ z0, (vecV v)[0]? = some (.int .i64 z0) := ⟨_, vecV_get v 0 _ (List.getElem?_eq_getElem (by omega))⟩
  have HS := hid (fun z => vecV_set v 0 z)
  have HV := hid hv
  clear hv
  go_enter Tryz.func92, Tryz.ntmps92
  go_wp2_with fail
  rw [HS.out]
  have HB : Hid (Blk ((w.alloc (.cells (vecV (v.set 0 0)) 44)).alloc (.cells (vecV vec0) 44)) w.heap.size 44 (vecV (v.set 0 0))) := (Blk.new w _ _).alloc _
  have HR : Hid (Blk ((w.alloc (.cells (vecV (v.set 0 0)) 44)).alloc (.cells (vecV vec0) 44)) (w.heap.size + 1) 44 (vecV vec0)) := by
    have := Blk.new (w.alloc (.cells (vecV (v.set 0 0)) 44)) 44 (vecV vec0)
    rw [World.size_alloc] at this
    exact this
  have HE : Hid (Ext w ((w.alloc (.cells (vecV (v.set 0 0)) 44)).alloc (.cells (vecV vec0) 44))) := (Ext.alloc _ _).alloc' _
  generalize (w.alloc (.cells (vecV (v.set 0 0)) 44)).alloc (.cells (vecV vec0) 44) = w0 at HB HR HE ⊢
  simp only [Tryz.isAgg44, Tryz.sizeOf44, Result.andThen, ↓reduceIte, run_loadCells_blk HB.out 65 (by rw [vecV_size]; exact (by rw [List.length_set]; exact HV.out))]
  rw [Oper.upon_value]
  clear h0 HS
  go_wp2_with fail
  go_loopw [7] (fun s7 wr => ∃ k : Nat, k ≤ 65 ∧ s7 = .int .i64 k ∧ Hid (Ext w wr) ∧ Hid (Blk wr w.heap.size 44 (vecV (stepL v k))) ∧ Hid (Blk wr (w.heap.size + 1) 44 (vecV vec0))) (fun s7 _ => 65 - (intOf s7).toNat)
  case atStart => exact ⟨0, by omega, rfl, HE, by rw [stepL_zero]; exact HB, HR⟩
  case round =>
    obtain ⟨k, hk, rfl, hE, hB, hR⟩ := hrel
    clear HB HR HE
    by_cases hlt : k < 65
    · have d1 : decide ((k : Int) < 65) = true := decide_eq_true (by omega)
      have d1' : decide (k < 65) = true := decide_eq_true hlt
      obtain ⟨z, hz⟩ : ∃ z, (v.set 0 0)[k]? = some z := ⟨_, List.getElem?_eq_getElem (by rw [List.length_set, HV.out]; exact hlt)⟩
      have hc := vecV_get _ _ _ hz
      have HN := hid (stepL_next hz)
      obtain ⟨y, hy⟩ : ∃ y, (stepL v k)[k]? = some y := ⟨_, List.getElem?_eq_getElem (by rw [stepL_length, HV.out]; exact hlt)⟩
      have c0 := hB.out.cell (vecV_get _ _ _ hy)
      have z0 := hB.out.frozen k
      have l0 := hB.out.lt
      have hix := fun W => run_index_vec (v.set 0 0) k z hlt hz W
      clear hz hy
      go_wp2_with fail
      go_roundw
      case rel => exact ⟨k + 1, by omega, by go_num, hE.out.setCell' (p := ⟨w.heap.size, k, none⟩) (Nat.le_refl _) _, by
          have := hB.out.set k (.int .i64 (max z 0))
          rw [vecV_set, HN.out] at this
          exact this, hR.out.far (p := ⟨w.heap.size, k, none⟩) (by show w.heap.size + 1 ≠ w.heap.size; omega) _⟩
      case measure => simp [intOf]; omega
    · obtain rfl : k = 65 := by omega
      rw [← HV.out, stepL_all] at hB
      have HL : Hid ((cleanL v).length = 65) := by unfold Hid; rw [cleanL_length]; exact HV.out
      clear hlt hk HV
      go_wp2_with fail
      simp only [Tryz.isAgg44, Tryz.sizeOf44, Result.andThen, ↓reduceIte, run_loadCells_blk hB.out 65 (by rw [vecV_size]; exact HL.out)]
      rw [Oper.upon_value]
      go_wp2_with fail
      simp only [Tryz.sizeOf44, Result.andThen, ↓reduceIte, run_storeCells_blk hR.out (by rw [vecV_size, HL.out]; exact vec_size) (by rw [vecV_size, vecV_size, HL.out]; exact (by rfl)) (vecV_one _), show (vecV _).size = 65 from (vecV_size _).trans HL.out]
      rw [Oper.upon_skip]
      go_wp2_with fail
      have HF := hid (hR.out.setRow (vecV (cleanL v)))
      exact bodyPost_ret (results_cell_row rfl _ _ (w.heap.size + 1) 44 _ (0, 0) _ rfl HF.out Tryz.underlying44 rfl (by rw [vecV_size, HL.out]; exact vec_size)) rfl ⟨rfl, Ext.setRow hE.out (by omega) _⟩
end Go.Proofs.YtmbgakjkhgdjnaaGreatDoor
namespace Go.Proofs.YtmbgakjkhgdjnaaGreatDoor
set_option linter.unusedSimpArgs false
set_option linter.unusedVariables false
open Go.RowKit

theorem run_eqItems_vec (a b : List Int) (w : World) : ∀ is : List Nat, (∀ i ∈ is, i < a.length ∧ i < b.length) → (Op.eqItems 9999 3 1 (vecV a) (vecV b) is).run Tryz.prog w = .ok (decide (∀ i ∈ is, a[i]? = b[i]?)) w
  | [], _ => by simp [Op.eqItems]
  | i :: is, h => by
    obtain ⟨h1, h2⟩ := h i (by simp)
    have ih := run_eqItems_vec a b w is (fun j hj => h j (by simp [hj]))
    have e1 : a[i]? = some a[i] := List.getElem?_eq_getElem h1
    have e2 : b[i]? = some b[i] := List.getElem?_eq_getElem h2
    have g1 := vecV_get a i _ e1
    have g2 := vecV_get b i _ e2
    generalize a[i] = x at e1 g1
    generalize b[i] = y at e2 g2
    by_cases hxy : x = y
    · subst hxy
      simp [Op.eqItems, part, g1, g2, go_sem, ih, e1, e2]
    · simp [Op.eqItems, part, g1, g2, go_sem, e1, e2, hxy]
theorem run_eq_vec (a b : List Int) (ha : a.length = 65) (hb : b.length = 65) (w : World) : (Op.equalIn 10000 44 (.agg (vecV a)) (.agg (vecV b))).run Tryz.prog w = .ok (decide (a = b)) w := by
  have hi0 : (Tryz.prog.info? 3).map (fun i => (i.size)) = some 1 := by kernel_rfl
  obtain ⟨i, hi, he⟩ := Option.map_eq_some_iff.1 hi0
  have hc : Tryz.prog.cellsOf 3 = 1 := by kernel_rfl
  rw [run_equalIn_array w 9999 (vecV a) (vecV b) Tryz.underlying44 hi, hc]
  rw [run_eqItems_vec a b w (List.range 65) (fun i hi => by rw [ha, hb]; simpa using hi)]
  have : (∀ i ∈ List.range 65, a[i]? = b[i]?) ↔ a = b := by
    constructor
    · intro h
      apply List.ext_getElem?
      intro i
      by_cases hi : i < 65
      · exact h i (by simpa using hi)
      · rw [List.getElem?_eq_none (by omega), List.getElem?_eq_none (by omega)]
    · rintro rfl i _; rfl
  rw [decide_eq_decide.2 this]
theorem quiet_load {P : Program} {o : Oper} {T : TypeId} {x : Operand} {g : Nat} {cs : Array Value} {a : Act} {C : World → Prop} {K : Act → Prop} (hop : o.op = .load T x) (hx : a.eval x = .pointer (some ⟨g, 0, none⟩)) (hC : ∀ w, C w → Blk w g T cs) (hld : ∀ w, Blk w g T cs → (loadVar T ⟨g, 0, none⟩).run P w = .ok (.agg cs) w) (hK : K (a.put o.dst (.agg cs))) : o.quiet P a C K := by
  refine ⟨.agg cs, fun w hw => ?_, hK⟩
  have h1 := hld w (hC w hw)
  simp only [Oper.quietAt, execOp, hop, hx, Instr.loadAt, Instr.sureAddr, Sem.run_bind, Sem.run_pure, Result.andThen, h1]
  exact ⟨rfl, rfl⟩
theorem vec_load {w : World} {g : Nat} {v : List Int} (hv : v.length = 65) (h : Blk w g 44 (vecV v)) : (loadVar 44 ⟨g, 0, none⟩).run Tryz.prog w = .ok (.agg (vecV v)) w :=
  run_loadVar_row w g 44 44 _ (0, 0) _ h Tryz.underlying44 rfl (by rw [vecV_size, hv]; exact vec_size)
end Go.Proofs.YtmbgakjkhgdjnaaGreatDoor
