/-
  Whether two rows of clauses are the same: the document's Equal (FpZ's text, for seats with Match or sizes).
-/
import Derived.Test.YtggbkjmedoooaaaGreatDoorQdD
namespace Go.Proofs.YtggbkjmedoooaaaGreatDoor
set_option linter.unusedSimpArgs false
set_option linter.unusedVariables false
open Go.RowKit

def eqC (p : ByteArray) (a b : Int) (q : ByteArray) (c d : Int) : Bool := decide (p = q ∧ a = c ∧ b = d)
theorem run_eq_clause (p : ByteArray) (a b : Int) (q : ByteArray) (c d : Int) (w : World) : (Op.equalIn 10000 42 (.agg #[.string p, .int .i64 a, .int .i64 b]) (.agg #[.string q, .int .i64 c, .int .i64 d])).run Tryz.prog w = .ok (eqC p a b q c d) w := by
  have h0 : (p.toList == q.toList) = decide (p = q) := beq_toList p q
  unfold eqC
  by_cases h1 : p = q <;> by_cases h2 : a = c <;> by_cases h3 : b = d <;> simp [go_sem, h1, h2, h3] <;> simp_all
attribute [go_sem 2000] run_eq_clause
set_option maxRecDepth 100000 in
set_option maxHeartbeats 4000000 in
theorem requal_c (w : World) (u v : Value) (a b : List ClauseI) (hu : Sl w 3 u (a.map ClauseI.cells)) (hv : Sl w 3 v (b.map ClauseI.cells)) : Calls Tryz.prog 12 #[u, v] w (Ret (.bool (decide (a = b))) w) := by
  obtain ⟨A, c, rfl, h1, h2, h3⟩ := sl_get hu
  obtain ⟨B, d, rfl, k1, k2, k3⟩ := sl_get hv
  have HR : Hid ((a ≠ b → decide (a = b) = false) ∧ (a = b → decide (a = b) = true)) := ⟨fun h => decide_eq_false h, fun h => decide_eq_true h⟩
  generalize decide (a = b) = r at HR ⊢
  clear hu hv
  unfold maxLen at h2 k2
  by_cases hlen : a.length = b.length
  · have dl : ((a.length : Int) != b.length) = false := by simp [hlen]
    go_enter Tryz.func12, Tryz.ntmps12
    go_wp2_with fail
    go_loopw [5] (fun i wr => ∃ k : Nat, k ≤ a.length ∧ i = .int .i64 k ∧ Ext w wr ∧ Hid (a.take k = b.take k)) (fun i _ => a.length - (intOf i).toNat)
    case atStart => exact ⟨0, by omega, rfl, Ext.refl _, rfl⟩
    case round =>
      obtain ⟨k, hk, rfl, hE, ht⟩ := hrel
      have HE := hid hE
      by_cases hka : k < a.length
      · have hkb : k < b.length := by omega
        obtain ⟨b1, o1, rfl, lb1, hcell1⟩ := h3 (by omega)
        obtain ⟨b2, o2, rfl, lb2, hcell2⟩ := k3 (by omega)
        have c0 := hE.cell (hcell1 k hka 0 _ rfl)
        have c1 := hE.cell (hcell1 k hka 1 _ rfl)
        have c2 := hE.cell (hcell1 k hka 2 _ rfl)
        have d0 := hE.cell (hcell2 k hkb 0 _ rfl)
        have d1 := hE.cell (hcell2 k hkb 1 _ rfl)
        have d2 := hE.cell (hcell2 k hkb 2 _ rfl)
        rw [Nat.add_zero] at c0 d0
        have lr1 := Nat.lt_of_lt_of_le lb1 hE.size
        have lr2 := Nat.lt_of_lt_of_le lb2 hE.size
        have HNe : Hid (a[k] ≠ b[k] → r = false) := fun h => HR.out.1 (fun e => h (by subst e; rfl))
        have HNx : Hid (a[k] = b[k] → a.take (k + 1) = b.take (k + 1)) := fun h => by
          rw [List.take_succ_eq_append_getElem hka, List.take_succ_eq_append_getElem hkb, ht.out, h]
        clear hcell1 hcell2 h3 k3 hE ht HR
        generalize a[k] = x at c0 c1 c2 HNe HNx
        generalize b[k] = y at d0 d1 d2 HNe HNx
        by_cases hxy : x = y
        · have e1 : eqC x.pre x.lo x.hi y.pre y.lo y.hi = true := by subst hxy; simp [eqC]
          have HNx := hid (HNx.out hxy)
          clear HNe hxy
          go_wp2_with fail
          refine wp_region_any_order (by kernel_rfl) (by kernel_rfl) (by kernel_rfl) ?_
          repeat (first
            | (refine AWq.val rfl rfl rfl rfl (fun K hK => ?_); go_big_quiet_op; refine hK _ ?_; clear hK K)
            | (refine AWq.skip rfl rfl rfl ?_; simp only [Act.put, List.setIfInBounds_toArray, List.set_cons_succ, List.set_cons_zero]))
          refine AWq.done rfl rfl rfl (fun w5 x5 => ?_)
          simp only [closeAny, Act.put, List.setIfInBounds_toArray, List.set_cons_succ, List.set_cons_zero]
          go_wp2_with fail
          go_roundw
          case rel => exact ⟨k + 1, by omega, by go_num, HE.out.trans x5, HNx.out⟩
          case measure => simp [intOf]; omega
        · have e1 : eqC x.pre x.lo x.hi y.pre y.lo y.hi = false := by
            unfold eqC
            rw [decide_eq_false_iff_not]
            rintro ⟨q1, q2, q3⟩
            exact hxy (by cases x; cases y; simp_all)
          have HNe := hid (HNe.out hxy)
          clear HNx hxy
          go_wp2_with fail
          refine wp_region_any_order (by kernel_rfl) (by kernel_rfl) (by kernel_rfl) ?_
          repeat (first
            | (refine AWq.val rfl rfl rfl rfl (fun K hK => ?_); go_big_quiet_op; refine hK _ ?_; clear hK K)
            | (refine AWq.skip rfl rfl rfl ?_; simp only [Act.put, List.setIfInBounds_toArray, List.set_cons_succ, List.set_cons_zero]))
          refine AWq.done rfl rfl rfl (fun w5 x5 => ?_)
          simp only [closeAny, Act.put, List.setIfInBounds_toArray, List.set_cons_succ, List.set_cons_zero]
          go_wp2_with fail
          go_ret
          exact ⟨by rw [HNe.out]; rfl, HE.out.trans x5⟩
      · obtain rfl : k = a.length := by omega
        have hr : Hid (r = true) := HR.out.2 (by have := ht.out; rw [List.take_length] at this; rw [hlen, List.take_length] at this; exact this)
        clear hE h3 k3 ht HR
        go_wp2_with fail
        go_ret
        exact ⟨by rw [hr.out]; rfl, HE.out⟩
  · have dl : ((a.length : Int) != b.length) = true := by simp; omega
    have hr : Hid (r = false) := HR.out.1 (fun e => hlen (by rw [e]))
    clear h3 k3 HR
    go_enter Tryz.func12, Tryz.ntmps12
    go_wp2_with fail
    go_ret
    exact ⟨by rw [hr.out]; rfl, Ext.refl _⟩
end Go.Proofs.YtggbkjmedoooaaaGreatDoor
