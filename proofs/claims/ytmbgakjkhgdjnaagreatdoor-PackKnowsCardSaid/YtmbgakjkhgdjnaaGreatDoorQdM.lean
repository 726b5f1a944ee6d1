/-
  '==' of versions; the document's Before.
  The document's Same of rows of versions (written by gen_pv.py).
-/
import Derived.Test.YtmbgakjkhgdjnaaGreatDoorProg
import Derived.Test.YtmbgakjkhgdjnaaGreatDoorQdC
import Derived.Test.YtmbgakjkhgdjnaaGreatDoorQdL
namespace Go.Proofs.YtmbgakjkhgdjnaaGreatDoor
set_option linter.unusedSimpArgs false
set_option linter.unusedVariables false
open Go.RowKit

theorem run_eqIn_ver (a1 a2 b1 b2 : Int) (w : World) : (Op.equalIn 9999 60 (.agg #[.int .i64 a1, .int .i64 a2]) (.agg #[.int .i64 b1, .int .i64 b2])).run Tryz.prog w = .ok (eq2 a1 a2 b1 b2) w := by
  by_cases h1 : a1 = b1 <;> by_cases h2 : a2 = b2 <;> simp [go_sem, eq2, h1, h2]
theorem run_eq_ver (a1 a2 b1 b2 : Int) (w : World) : (Op.equalIn 10000 60 (.agg #[.int .i64 a1, .int .i64 a2]) (.agg #[.int .i64 b1, .int .i64 b2])).run Tryz.prog w = .ok (eq2 a1 a2 b1 b2) w := by
  by_cases h1 : a1 = b1 <;> by_cases h2 : a2 = b2 <;> simp [go_sem, eq2, h1, h2]
attribute [go_sem 2000] run_eq_ver
set_option maxHeartbeats 400000 in
theorem rbefore_c (a b : Ver) (w : World) : Calls Tryz.prog 69 #[a.val, b.val] w (Ret (.bool (a.lt b)) w) := by
  unfold Ver.val
  go_enter Tryz.func69, Tryz.ntmps69
  go_wp2
  all_goals go_ret
  all_goals refine ⟨?_, ((Ext.refl _).alloc' _).alloc' _⟩
  all_goals simp_all [Ver.lt]
  all_goals omega
end Go.Proofs.YtmbgakjkhgdjnaaGreatDoor
namespace Go.Proofs.YtmbgakjkhgdjnaaGreatDoor
set_option linter.unusedSimpArgs false
set_option linter.unusedVariables false
open Go.RowKit

set_option maxRecDepth 100000 in
set_option maxHeartbeats 4000000 in
theorem vsame_c (w : World) (u v : Value) (a b : List Ver) (hu : Sl w 2 u (a.map Ver.cells)) (hv : Sl w 2 v (b.map Ver.cells)) : Calls Tryz.prog 60 #[u, v] w (Ret (.bool (decide (a = b))) w) := by
  obtain ⟨A, c, rfl, h1, h2, h3⟩ := sl_get hu
  obtain ⟨B, d, rfl, k1, k2, k3⟩ := sl_get hv
  have HR : Hid ((a ≠ b → decide (a = b) = false) ∧ (a = b → decide (a = b) = true)) := ⟨fun h => decide_eq_false h, fun h => decide_eq_true h⟩
  generalize decide (a = b) = r at HR ⊢
  clear hu hv
  unfold maxLen at h2 k2
  by_cases hlen : a.length = b.length
  · have dl : ((a.length : Int) != b.length) = false := by simp [hlen]
    go_enter Tryz.func60, Tryz.ntmps60
    go_wp2_with fail
    go_loopw [5] (fun i wr => ∃ k : Nat, k ≤ a.length ∧ i = .int .i64 k ∧ Ext w wr ∧ Hid (a.take k = b.take k)) (fun i _ => a.length - (intOf i).toNat)
    case atStart => exact ⟨0, by omega, rfl, Ext.refl _, rfl⟩
    case round =>
      obtain ⟨k, hk, rfl, hE, ht⟩ := hrel
      have HE := hid hE
      by_cases hka : k < a.length
      · have hkb : k < b.length := by omega
        obtain ⟨b1, o1, rfl, lb1, hcell1⟩ := h3 (by omega)
        obtain ⟨b2, o2, rfl, lb2, hcell2⟩ := k3 (by omega)
        have c0 := hE.cell (hcell1 k hka 0 _ rfl)
        have c1 := hE.cell (hcell1 k hka 1 _ rfl)
        have d0 := hE.cell (hcell2 k hkb 0 _ rfl)
        have d1 := hE.cell (hcell2 k hkb 1 _ rfl)
        rw [Nat.add_zero] at c0 d0
        have lr1 := Nat.lt_of_lt_of_le lb1 hE.size
        have lr2 := Nat.lt_of_lt_of_le lb2 hE.size
        have HNe : Hid (a[k] ≠ b[k] → r = false) := fun h => HR.out.1 (fun e => h (by subst e; rfl))
        have HNx : Hid (a[k] = b[k] → a.take (k + 1) = b.take (k + 1)) := fun h => by
          rw [List.take_succ_eq_append_getElem hka, List.take_succ_eq_append_getElem hkb, ht.out, h]
        clear hcell1 hcell2 h3 k3 hE ht HR
        generalize a[k] = x at c0 c1 HNe HNx
        generalize b[k] = y at d0 d1 HNe HNx
        by_cases hxy : x = y
        · have e1 : eq2 x.by_ x.n y.by_ y.n = true := by subst hxy; simp [eq2]
          have HNx := hid (HNx.out hxy)
          clear HNe hxy
          go_wp2_with fail
          refine wp_region_any_order (by kernel_rfl) (by kernel_rfl) (by kernel_rfl) ?_
          repeat (first
            | (refine AWq.val rfl rfl rfl rfl (fun K hK => ?_); go_big_quiet_op; refine hK _ ?_; clear hK K)
            | (refine AWq.skip rfl rfl rfl ?_; simp only [Act.put, List.setIfInBounds_toArray, List.set_cons_succ, List.set_cons_zero]))
          refine AWq.done rfl rfl rfl (fun w5 x5 => ?_)
          simp only [closeAny, Act.put, List.setIfInBounds_toArray, List.set_cons_succ, List.set_cons_zero]
          go_wp2_with fail
          go_roundw
          case rel => exact ⟨k + 1, by omega, by go_num, HE.out.trans x5, HNx.out⟩
          case measure => simp [intOf]; omega
        · have e1 : eq2 x.by_ x.n y.by_ y.n = false := by
            rw [Bool.eq_false_iff]
            intro h
            exact hxy (by cases x; cases y; simp [eq2] at h; simp [h])
          have HNe := hid (HNe.out hxy)
          clear HNx hxy
          go_wp2_with fail
          refine wp_region_any_order (by kernel_rfl) (by kernel_rfl) (by kernel_rfl) ?_
          repeat (first
            | (refine AWq.val rfl rfl rfl rfl (fun K hK => ?_); go_big_quiet_op; refine hK _ ?_; clear hK K)
            | (refine AWq.skip rfl rfl rfl ?_; simp only [Act.put, List.setIfInBounds_toArray, List.set_cons_succ, List.set_cons_zero]))
          refine AWq.done rfl rfl rfl (fun w5 x5 => ?_)
          simp only [closeAny, Act.put, List.setIfInBounds_toArray, List.set_cons_succ, List.set_cons_zero]
          go_wp2_with fail
          go_ret
          exact ⟨by rw [HNe.out]; rfl, HE.out.trans x5⟩
      · obtain rfl : k = a.length := by omega
        have hr : Hid (r = true) := HR.out.2 (by have := ht.out; rw [List.take_length] at this; rw [hlen, List.take_length] at this; exact this)
        clear hE h3 k3 ht HR
        go_wp2_with fail
        go_ret
        exact ⟨by rw [hr.out]; rfl, HE.out⟩
  · have dl : ((a.length : Int) != b.length) = true := by simp; omega
    have hr : Hid (r = false) := HR.out.1 (fun e => hlen (by rw [e]))
    clear h3 k3 HR
    go_enter Tryz.func60, Tryz.ntmps60
    go_wp2_with fail
    go_ret
    exact ⟨by rw [hr.out]; rfl, Ext.refl _⟩
end Go.Proofs.YtmbgakjkhgdjnaaGreatDoor
