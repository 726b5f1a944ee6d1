/-
  tally.Add, tally.All; the document's Same.
-/
import Derived.Test.YtefgjkaoidifbaaTaB
namespace Go.Proofs.Ytefgjkaoidifbaa
set_option linter.unusedSimpArgs false
set_option linter.unusedVariables false
open Go.RowKit Go.Sort Go.Maps

def eq4 (a b : Cnt) : Bool := decide (a.kind = b.kind) && decide (a.acts = b.acts) && decide (a.errs = b.errs) && decide (a.made = b.made)
theorem eq4_self (a : Cnt) : eq4 a a = true := by simp [eq4]
theorem run_eqIn_cnt (a1 a2 a3 a4 b1 b2 b3 b4 : Int) (w : World) : (Op.equalIn 9999 58 (.agg #[.int .i64 a1, .int .i64 a2, .int .i64 a3, .int .i64 a4]) (.agg #[.int .i64 b1, .int .i64 b2, .int .i64 b3, .int .i64 b4])).run Try.prog w = .ok (eq4 ⟨a1, a2, a3, a4⟩ ⟨b1, b2, b3, b4⟩) w := by
  by_cases h1 : a1 = b1 <;> by_cases h2 : a2 = b2 <;> by_cases h3 : a3 = b3 <;> by_cases h4 : a4 = b4 <;> simp [go_sem, eq4, h1, h2, h3, h4]
theorem run_eq_cnt (a1 a2 a3 a4 b1 b2 b3 b4 : Int) (w : World) : (Op.equalIn 10000 58 (.agg #[.int .i64 a1, .int .i64 a2, .int .i64 a3, .int .i64 a4]) (.agg #[.int .i64 b1, .int .i64 b2, .int .i64 b3, .int .i64 b4])).run Try.prog w = .ok (eq4 ⟨a1, a2, a3, a4⟩ ⟨b1, b2, b3, b4⟩) w := by
  by_cases h1 : a1 = b1 <;> by_cases h2 : a2 = b2 <;> by_cases h3 : a3 = b3 <;> by_cases h4 : a4 = b4 <;> simp [go_sem, eq4, h1, h2, h3, h4]
attribute [go_sem 2000] run_eq_cnt

set_option maxRecDepth 100000 in
set_option maxHeartbeats 1000000 in
theorem cadd_c (w : World) (v u : Value) (a b : List Cnt) (h : Sl w 4 v (a.map Cnt.cells)) (hb : Sl w 4 u (b.map Cnt.cells)) (hl : a.length + b.length ≤ 900) (hB : ∀ x ∈ a ++ b, Bd 1100000000000 x ∧ okK x.kind) : Calls Try.prog 46 #[v, u] w (RetQ (RowAt Cnt.cells 4 (gat (a ++ b))) w) := by
  have hsrc := src_of_sl Try.underlying53 cnt_coded hb (Ext.refl w)
  obtain ⟨A, c, rfl, h1, h2, _⟩ := sl_get h
  obtain ⟨A', c', rfl, _⟩ := sl_get hb
  obtain ⟨v', w1, hr, hS, hE⟩ := app_full (P := Try.prog) (tx := 53) (ty := 53) (m := b) cnt_elem cnt_coded h hsrc (by omega) (by omega) (by omega)
  have HJ := hid (gather_c w1 v' (a ++ b) hS (by simp; omega) hB)
  have HE := hid hE
  unfold maxLen at h2
  clear h hb hsrc hS hE hB
  generalize gat (a ++ b) = r at HJ ⊢
  go_enter Try.func46, Try.ntmps46
  go_wp2_with (first
    | (at_builtin; refine wpList_app rfl (.tmp 10) (.tmp 11) _ _ rfl rfl rfl hr ?_)
    | (go_at_call 71; refine (HJ.out).mono ?_; rintro e w' ⟨v', rfl, hv', hx⟩))
  go_ret
  exact ⟨_, rfl, hv', HE.out.trans hx⟩

set_option maxRecDepth 100000 in
set_option maxHeartbeats 1000000 in
theorem csame_c (w : World) (u v : Value) (l : List Cnt) (hu : Sl w 4 u (l.map Cnt.cells)) (hv : Sl w 4 v (l.map Cnt.cells)) : Calls Try.prog 44 #[u, v] w (Ret (.bool true) w) := by
  obtain ⟨A, c, rfl, h1, h2, h3⟩ := sl_get hu
  obtain ⟨B, d, rfl, k1, k2, k3⟩ := sl_get hv
  clear hu hv
  unfold maxLen at h2 k2
  go_enter Try.func44, Try.ntmps44
  go_wp2_with fail
  go_loopw [5] (fun i wr => ∃ k : Nat, k ≤ l.length ∧ i = .int .i64 k ∧ Ext w wr) (fun i _ => l.length - (intOf i).toNat)
  case atStart => exact ⟨0, by omega, rfl, Ext.refl _⟩
  case round =>
    obtain ⟨k, hk, rfl, hE⟩ := hrel
    by_cases hlt : k < l.length
    · obtain ⟨b, o, rfl, lb, hcell⟩ := h3 (by omega)
      obtain ⟨b', o', rfl, lb', hcell'⟩ := k3 (by omega)
      have c0 := hE.cell (hcell k hlt 0 _ rfl)
      have c1 := hE.cell (hcell k hlt 1 _ rfl)
      have c2 := hE.cell (hcell k hlt 2 _ rfl)
      have c3 := hE.cell (hcell k hlt 3 _ rfl)
      have d0 := hE.cell (hcell' k hlt 0 _ rfl)
      have d1 := hE.cell (hcell' k hlt 1 _ rfl)
      have d2 := hE.cell (hcell' k hlt 2 _ rfl)
      have d3 := hE.cell (hcell' k hlt 3 _ rfl)
      rw [Nat.add_zero] at c0 d0
      have HE := hid hE
      clear hcell hcell' h3 k3 hE
      generalize l[k] = x at *
      have hs : eq4 ⟨x.kind, x.acts, x.errs, x.made⟩ ⟨x.kind, x.acts, x.errs, x.made⟩ = true := eq4_self x
      go_wp2_with fail
      go_quiet (fail)
      go_wp2_with fail
      exact ⟨⟨k + 1, by omega, by go_num, HE.out.drewN' _⟩, by simp [intOf]; omega⟩
    · have HE := hid hE
      clear hE h3 k3
      go_wp2_with fail
      go_ret
      exact ⟨rfl, HE.out⟩
end Go.Proofs.Ytefgjkaoidifbaa
