/-
  '==' of vectors; a whole row loaded in a drawn region.
-/
import Derived.Test.YtanflgipdiogaaaVcA
import Derived.ChangeKeysEq
namespace Go.Proofs.Ytanflgipdiogaaa
set_option linter.unusedSimpArgs false
set_option linter.unusedVariables false
open Go.RowKit

theorem run_eqItems_vec (a b : List Int) (w : World) : ∀ is : List Nat, (∀ i ∈ is, i < a.length ∧ i < b.length) → (Op.eqItems 9999 3 1 (vecV a) (vecV b) is).run Try.prog w = .ok (decide (∀ i ∈ is, a[i]? = b[i]?)) w
  | [], _ => by simp [Op.eqItems]
  | i :: is, h => by
    obtain ⟨h1, h2⟩ := h i (by simp)
    have ih := run_eqItems_vec a b w is (fun j hj => h j (by simp [hj]))
    have e1 : a[i]? = some a[i] := List.getElem?_eq_getElem h1
    have e2 : b[i]? = some b[i] := List.getElem?_eq_getElem h2
    have g1 := vecV_get a i _ e1
    have g2 := vecV_get b i _ e2
    generalize a[i] = x at e1 g1
    generalize b[i] = y at e2 g2
    by_cases hxy : x = y
    · subst hxy
      simp [Op.eqItems, part, g1, g2, go_sem, ih, e1, e2]
    · simp [Op.eqItems, part, g1, g2, go_sem, e1, e2, hxy]
theorem run_eq_vec (a b : List Int) (ha : a.length = 65) (hb : b.length = 65) (w : World) : (Op.equalIn 10000 23 (.agg (vecV a)) (.agg (vecV b))).run Try.prog w = .ok (decide (a = b)) w := by
  have hi0 : (Try.prog.info? 3).map (fun i => (i.size)) = some 1 := by kernel_rfl
  obtain ⟨i, hi, he⟩ := Option.map_eq_some_iff.1 hi0
  have hc : Try.prog.cellsOf 3 = 1 := by kernel_rfl
  rw [run_equalIn_array w 9999 (vecV a) (vecV b) Try.underlying23 hi, hc]
  rw [run_eqItems_vec a b w (List.range 65) (fun i hi => by rw [ha, hb]; simpa using hi)]
  have : (∀ i ∈ List.range 65, a[i]? = b[i]?) ↔ a = b := by
    constructor
    · intro h
      apply List.ext_getElem?
      intro i
      by_cases hi : i < 65
      · exact h i (by simpa using hi)
      · rw [List.getElem?_eq_none (by omega), List.getElem?_eq_none (by omega)]
    · rintro rfl i _; rfl
  rw [decide_eq_decide.2 this]
theorem quiet_load {P : Program} {o : Oper} {T : TypeId} {x : Operand} {g : Nat} {cs : Array Value} {a : Act} {C : World → Prop} {K : Act → Prop} (hop : o.op = .load T x) (hx : a.eval x = .pointer (some ⟨g, 0, none⟩)) (hC : ∀ w, C w → Blk w g T cs) (hld : ∀ w, Blk w g T cs → (loadVar T ⟨g, 0, none⟩).run P w = .ok (.agg cs) w) (hK : K (a.put o.dst (.agg cs))) : o.quiet P a C K := by
  refine ⟨.agg cs, fun w hw => ?_, hK⟩
  have h1 := hld w (hC w hw)
  simp only [Oper.quietAt, execOp, hop, hx, Instr.loadAt, Instr.sureAddr, Sem.run_bind, Sem.run_pure, Result.andThen, h1]
  exact ⟨rfl, rfl⟩
theorem vec_load {w : World} {g : Nat} {v : List Int} (hv : v.length = 65) (h : Blk w g 23 (vecV v)) : (loadVar 23 ⟨g, 0, none⟩).run Try.prog w = .ok (.agg (vecV v)) w :=
  run_loadVar_row w g 23 23 _ (0, 0) _ h Try.underlying23 rfl (by rw [vecV_size, hv]; exact vec_size)
end Go.Proofs.Ytanflgipdiogaaa
