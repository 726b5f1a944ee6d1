/-
  How two leaves stand; the library's insertion sort at leaves.
-/
import Derived.Test.YtgkdiknmjgpgmaaFnD
import Derived.Test.YtgkdiknmjgpgmaaSoG
import Derived.Test.YtgkdiknmjgpgmaaSoI
namespace Go.Proofs.Ytgkdiknmjgpgmaa.D
open Go.RowKit
def cmpS (a b : ByteArray) : Int := if blt a b then -1 else if blt b a then 1 else 0
def cmpL (a b : LeafI) : Int := cmpS a.name b.name
set_option maxHeartbeats 400000 in
theorem isNaNS_c (a : ByteArray) (w : World) : Calls Try.prog 67 #[.string a] w (Ret (.bool false) w) := by
  have h : (a.toList == a.toList) = true := by simp
  go_enter Try.func67, Try.ntmps67
  go_wp2_with fail
  go_ret
  exact ⟨rfl, Ext.refl _⟩
set_option maxHeartbeats 1000000 in
theorem compareS_c (a b : ByteArray) (w : World) : Calls Try.prog 43 #[.string a, .string b] w (Ret (.int .i64 (cmpS a b)) w) := by
  have H := fun s W => hid (isNaNS_c s W)
  have hg := gt_blt a b
  unfold cmpS
  cases h1 : blt a b with
  | true =>
    rw [if_pos rfl]
    have d1 : Op.bytesLess a.toList b.toList = true := h1
    clear h1 hg
    go_enter Try.func43, Try.ntmps43
    go_wp2_with (go_at_call 67; refine (H _ _).out.mono ?_; rintro e w' ⟨rfl, hx⟩)
    go_ret
    exact ⟨rfl, Ext.trans (by assumption) (by assumption)⟩
  | false =>
    rw [if_neg Bool.false_ne_true]
    have d1 : Op.bytesLess a.toList b.toList = false := h1
    rw [d1] at hg
    clear h1
    cases h2 : blt b a with
    | true =>
      rw [if_pos rfl]
      rw [h2] at hg
      have d2 : (a.toList == b.toList) = false := by simpa using hg
      clear h2 hg
      go_enter Try.func43, Try.ntmps43
      go_wp2_with (go_at_call 67; refine (H _ _).out.mono ?_; rintro e w' ⟨rfl, hx⟩)
      go_ret
      exact ⟨rfl, Ext.trans (by assumption) (by assumption)⟩
    | false =>
      rw [if_neg Bool.false_ne_true]
      rw [h2] at hg
      have d2 : (a.toList == b.toList) = true := by simpa using hg
      clear h2 hg
      go_enter Try.func43, Try.ntmps43
      go_wp2_with (go_at_call 67; refine (H _ _).out.mono ?_; rintro e w' ⟨rfl, hx⟩)
      go_ret
      exact ⟨rfl, Ext.trans (by assumption) (by assumption)⟩
set_option maxRecDepth 100000 in
set_option maxHeartbeats 400000 in
theorem leaf2_c (a b : LeafI) (w : World) : Calls Try.prog 42 #[a.val, b.val] w (Ret (.int .i64 (cmpL a b)) w) := by
  have H := fun W => hid (compareS_c a.name b.name W)
  unfold cmpL LeafI.val
  generalize cmpS a.name b.name = z at H ⊢
  go_enter Try.func42, Try.ntmps42
  go_wp2_with (go_at_call 43; refine (H _).out.mono ?_; rintro e w' ⟨rfl, hx⟩)
  go_ret
  exact ⟨rfl, (((Ext.refl _).alloc' _).alloc' _).trans hx⟩
theorem leaf2_g (a b : LeafI) (W : World) : Calls Try.prog 42 #[a.val, b.val] W fun e w' => e = .returned (.int .i64 (cmpL a b)) ∧ ∃ q os', w' = Go.Sort.grow (W.drewN q) os' :=
  (leaf2_c a b W).mono fun e w' ⟨he, hx⟩ => by
    obtain ⟨E, hE⟩ := hx.wext
    exact ⟨he, E.drawn, E.objs, hE⟩
end Go.Proofs.Ytgkdiknmjgpgmaa.D
namespace Go.Proofs.Ytgkdiknmjgpgmaa
set_option linter.unusedSimpArgs false
set_option linter.unusedVariables false
open Go.RowKit Go.Sort
theorem cmpL_lt (a b : LeafI) : ltOf D.cmpL a b = blt a.name b.name := by
  unfold ltOf D.cmpL D.cmpS
  cases h1 : blt a.name b.name <;> cases h2 : blt b.name a.name <;> simp
theorem swo_leaf : SWO (ltOf D.cmpL) := by
  refine ⟨fun a => by rw [cmpL_lt]; exact blt_irrefl _, fun a b c h1 h2 => ?_, fun a b c h1 h2 => ?_⟩
  · rw [cmpL_lt] at *; exact blt_trans h1 h2
  · rw [cmpL_lt] at *
    cases h : blt a.name c.name with
    | false => rfl
    | true =>
      by_cases e : a.name = b.name
      · rw [e] at h; rw [h] at h2; cases h2
      · have h3 := blt_total h1 e
        have := blt_trans h3 h
        rw [this] at h2; cases h2
end Go.Proofs.Ytgkdiknmjgpgmaa
