/-
  Slim twin of IsA, IsC: iset.Of; the document's Of.
-/
import Derived.Test.YtanflgipdiogaaaVerS
namespace Go.Proofs.Ytanflgipdiogaaa
set_option linter.unusedSimpArgs false
set_option linter.unusedVariables false
open Go.RowKit

set_option maxRecDepth 100000 in
set_option maxHeartbeats 1000000 in
theorem rof_c (w : World) (v : Value) (l : List Ver) (h : Sl w 2 v (l.map Ver.cells)) (hl : l.length ≤ 100000) : Calls Try.prog 27 #[v] w (RetQ (RowAt Ver.cells 2 (setL Ver.lt l)) w) := by
  obtain ⟨A, c, rfl, h1, h2, h3⟩ := sl_get h
  unfold maxLen at h2
  clear h
  go_enter Try.func27, Try.ntmps27
  go_wp2_with fail
  go_loopw [3, 4] (fun v i wr => ∃ k : Nat, k ≤ l.length ∧ i = .int .i64 k ∧ Ext w wr ∧ RowAt Ver.cells 2 (setL Ver.lt (l.take k)) v wr) (fun _ i _ => l.length - (intOf i).toNat)
  case atStart => exact ⟨0, by omega, rfl, Ext.refl _, RowAt.nil _⟩
  case round =>
    obtain ⟨k, hk, rfl, hE, hR⟩ := hrel
    by_cases hlt : k < l.length
    · obtain ⟨b, o, rfl, lb, hcell⟩ := h3 (by omega)
      have c0 := hE.cell (hcell k hlt 0 _ rfl)
      have c1 := hE.cell (hcell k hlt 1 _ rfl)
      rw [Nat.add_zero] at c0
      have HP := hid (rput_c wr u3 (setL Ver.lt (l.take k)) l[k] hR (by have := setL_length Ver.strict (l.take k); rw [List.length_take] at this; omega))
      have HS := hid (setL_take (lt := Ver.lt) l k hlt)
      have HE := hid hE
      clear hE hR hcell h3
      generalize l[k] = z at c0 c1 HP HS
      unfold Ver.val at HP
      go_wp2_with (go_at_call 40; refine (HP.out).mono ?_; rintro e w' ⟨v', rfl, hv', hx⟩; have HV := hid hv'; have HX := hid hx; clear hv' hx)
      go_roundw
      case rel => exact ⟨k + 1, by omega, by go_num, HE.out.trans HX.out, by rw [HS.out]; exact HV.out⟩
      case measure => simp [intOf]; omega
    · obtain rfl : k = l.length := by omega
      rw [List.take_length] at hR
      have HR := hid hR
      have HE := hid hE
      clear hE hR h3
      go_wp2_with fail
      go_ret
      exact ⟨_, rfl, HR.out, HE.out⟩
set_option maxHeartbeats 400000 in
theorem iof_c (w : World) (v : Value) (l : List Ver) (h : Sl w 2 v (l.map Ver.cells)) (hl : l.length ≤ 1000000) : Calls Try.prog 39 #[v] w (RetQ (RowAt Ver.cells 2 (setL Ver.lt l)) w) := by
  have HS := hid (vsort_c w v l h hl)
  obtain ⟨A, c, rfl, _⟩ := sl_get h
  clear h
  generalize setL Ver.lt l = r at HS ⊢
  go_enter Try.func39, Try.ntmps39
  go_wp2_with (go_at_call 47; refine (HS.out).mono ?_; rintro e w' ⟨v', rfl, hv', hx⟩)
  go_ret
  exact ⟨_, rfl, hv', hx⟩
end Go.Proofs.Ytanflgipdiogaaa
