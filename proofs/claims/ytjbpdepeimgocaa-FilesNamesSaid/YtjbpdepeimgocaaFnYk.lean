/-
  twice: where it says false no two items have one stamp.
-/
import Derived.Test.YtjbpdepeimgocaaQaD
import Derived.Test.YtjbpdepeimgocaaFnWk
namespace Go.Proofs.Ytjbpdepeimgocaa
set_option linter.unusedSimpArgs false
set_option linter.unusedVariables false
open Go.RowKit Go.Sort
def Once (l : List UpdI) : Prop := ∀ i k (hi : i < l.length) (hk : k < i), ¬ (l[i].item ≠ l[k].item ∧ l[i].st = l[k].st)
def TwP (l : List UpdI) (u : Value) : Prop := ∃ b, u = .bool b ∧ (b = false → Once l)
set_option maxRecDepth 100000 in
set_option maxHeartbeats 4000000 in
theorem twice_c (w : World) (v : Value) (l : List UpdI) (h : Sl w 8 v (l.map UpdI.cells)) : Calls Try.prog 9 #[v] w (RetQ (fun u _ => TwP l u) w) := by
  obtain ⟨A, c, rfl, h1, h2, h3⟩ := sl_get h
  unfold maxLen at h2
  clear h
  go_enter Try.func9, Try.ntmps9
  go_wp2_with fail
  go_loopw [3] (fun i wr => ∃ k : Nat, k ≤ l.length ∧ i = .int .i64 k ∧ Ext w wr ∧ ∀ x y (hx : x < l.length) (hy : y < x), x < k → ¬ (l[x].item ≠ l[y].item ∧ l[x].st = l[y].st)) (fun i _ => l.length - (intOf i).toNat)
  case atStart => exact ⟨0, by omega, rfl, Ext.refl _, fun x y hx hy h => absurd h (Nat.not_lt_zero _)⟩
  case round =>
    obtain ⟨i, hi, rfl, hE, hO⟩ := hrel
    have HE := hid hE
    have HO := hid hO
    clear hE hO
    by_cases hlt : i < l.length
    · go_wp2_with fail
      obtain ⟨b, o, rfl, lb, hcell⟩ := h3 (by omega)
      go_loopw [4] (fun j wr2 => ∃ k : Nat, k ≤ i ∧ j = .int .i64 k ∧ Ext w wr2 ∧ ∀ y (hy : y < i), y < k → ¬ (l[i].item ≠ (l[y]'(Nat.lt_trans hy hlt)).item ∧ l[i].st = (l[y]'(Nat.lt_trans hy hlt)).st)) (fun j _ => i - (intOf j).toNat)
      case atStart => exact ⟨0, by omega, rfl, HE.out, fun y hy h => absurd h (Nat.not_lt_zero _)⟩
      case round =>
        clear HE
        obtain ⟨k, hk, rfl, hE, hI⟩ := hrel
        have HE := hid hE
        have HI := hid hI
        clear hI
        by_cases hki : k < i
        · have hkl : k < l.length := by omega
          have c0 := hE.cell (hcell i hlt 0 _ rfl)
          have c1 := hE.cell (hcell i hlt 1 _ rfl)
          have c2 := hE.cell (hcell i hlt 2 _ rfl)
          have c3 := hE.cell (hcell i hlt 3 _ rfl)
          have c4 := hE.cell (hcell i hlt 4 _ rfl)
          have e0 := hE.cell (hcell k hkl 0 _ rfl)
          have e1 := hE.cell (hcell k hkl 1 _ rfl)
          have e2 := hE.cell (hcell k hkl 2 _ rfl)
          have e3 := hE.cell (hcell k hkl 3 _ rfl)
          have e4 := hE.cell (hcell k hkl 4 _ rfl)
          rw [Nat.add_zero] at c0 e0
          have lbw := Nat.lt_of_lt_of_le lb hE.size
          clear hcell hE
          have h3s := eq3_st l[i].st l[k].st
          by_cases he : l[i].item = l[k].item
          · have hs := eq2_true he
            have HN : Hid (¬ (l[i].item ≠ l[k].item ∧ l[i].st = l[k].st)) := fun h => h.1 he
            clear h3s
            obtain ⟨u, hu⟩ : ∃ u, l[i] = u := ⟨_, rfl⟩
            obtain ⟨x, hx⟩ : ∃ x, l[k] = x := ⟨_, rfl⟩
            rw [hu] at c0 c1 c2 c3 c4 hs
            rw [hx] at e0 e1 e2 e3 e4 hs
            clear h3 hu hx he
            go_wp2_with fail
            refine wp_region_any_order (by kernel_rfl) (by kernel_rfl) (by kernel_rfl) ?_
            repeat (first
              | (refine AWq.val rfl rfl rfl rfl (fun K hK => ?_); go_big_quiet_op; refine hK _ ?_; clear hK K)
              | (refine AWq.skip rfl rfl rfl ?_; simp only [Act.put, List.setIfInBounds_toArray, List.set_cons_succ, List.set_cons_zero]))
            refine AWq.done rfl rfl rfl (fun w2 x2 => ?_)
            simp only [closeAny, Act.put, List.setIfInBounds_toArray, List.set_cons_succ, List.set_cons_zero]
            go_wp2_with fail
            go_roundw
            case rel => exact ⟨k + 1, by omega, by go_num, HE.out.trans x2, fun y hy hyk => by
              by_cases e : y = k
              · subst e; exact HN.out
              · exact HI.out y hy (by omega)⟩
            case measure => simp [intOf]; omega
          · have hs := eq2_false he
            by_cases ht : l[i].st = l[k].st
            · rw [decide_eq_true ht] at h3s
              clear ht
              obtain ⟨u, hu⟩ : ∃ u, l[i] = u := ⟨_, rfl⟩
              obtain ⟨x, hx⟩ : ∃ x, l[k] = x := ⟨_, rfl⟩
              rw [hu] at c0 c1 c2 c3 c4 hs h3s
              rw [hx] at e0 e1 e2 e3 e4 hs h3s
              clear h3 hu hx he
              go_wp2_with fail
              refine wp_region_any_order (by kernel_rfl) (by kernel_rfl) (by kernel_rfl) ?_
              repeat (first
                | (refine AWq.val rfl rfl rfl rfl (fun K hK => ?_); go_big_quiet_op; refine hK _ ?_; clear hK K)
                | (refine AWq.skip rfl rfl rfl ?_; simp only [Act.put, List.setIfInBounds_toArray, List.set_cons_succ, List.set_cons_zero]))
              refine AWq.done rfl rfl rfl (fun w2 x2 => ?_)
              simp only [closeAny, Act.put, List.setIfInBounds_toArray, List.set_cons_succ, List.set_cons_zero]
              go_wp2_with fail
              go_ret
              exact ⟨_, rfl, (⟨true, rfl, fun h => absurd h (by simp)⟩ : TwP l _), HE.out.trans x2⟩
            · rw [decide_eq_false ht] at h3s
              have HN : Hid (¬ (l[i].item ≠ l[k].item ∧ l[i].st = l[k].st)) := fun h => ht h.2
              clear ht
              obtain ⟨u, hu⟩ : ∃ u, l[i] = u := ⟨_, rfl⟩
              obtain ⟨x, hx⟩ : ∃ x, l[k] = x := ⟨_, rfl⟩
              rw [hu] at c0 c1 c2 c3 c4 hs h3s
              rw [hx] at e0 e1 e2 e3 e4 hs h3s
              clear h3 hu hx he
              go_wp2_with fail
              refine wp_region_any_order (by kernel_rfl) (by kernel_rfl) (by kernel_rfl) ?_
              repeat (first
                | (refine AWq.val rfl rfl rfl rfl (fun K hK => ?_); go_big_quiet_op; refine hK _ ?_; clear hK K)
                | (refine AWq.skip rfl rfl rfl ?_; simp only [Act.put, List.setIfInBounds_toArray, List.set_cons_succ, List.set_cons_zero]))
              refine AWq.done rfl rfl rfl (fun w2 x2 => ?_)
              simp only [closeAny, Act.put, List.setIfInBounds_toArray, List.set_cons_succ, List.set_cons_zero]
              go_wp2_with fail
              go_roundw
              case rel => exact ⟨k + 1, by omega, by go_num, HE.out.trans x2, fun y hy hyk => by
                by_cases e : y = k
                · subst e; exact HN.out
                · exact HI.out y hy (by omega)⟩
              case measure => simp [intOf]; omega
        · obtain rfl : k = i := by omega
          clear hcell h3 hE hki
          go_wp2_with fail
          go_roundw
          case rel => exact ⟨k + 1, by omega, by go_num, HE.out, fun x y hx hy hxk => by
            by_cases e : x = k
            · subst e; exact HI.out y hy hy
            · exact HO.out x y hx hy (by omega)⟩
          case measure => simp [intOf]; omega
    · obtain rfl : i = l.length := by omega
      go_wp2_with fail
      go_ret
      exact ⟨_, rfl, (⟨false, rfl, fun _ x y hx hy => HO.out x y hx hy hx⟩ : TwP l _), HE.out⟩
end Go.Proofs.Ytjbpdepeimgocaa
