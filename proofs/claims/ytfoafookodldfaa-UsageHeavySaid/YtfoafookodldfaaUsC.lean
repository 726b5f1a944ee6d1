/-
  The document's use of a prefix; the same uses.
-/
import Derived.Test.YtfoafookodldfaaUsB
namespace Go.Proofs.Ytfoafookodldfaa
set_option linter.unusedSimpArgs false
set_option linter.unusedVariables false
open Go.RowKit

set_option maxRecDepth 100000 in
set_option maxHeartbeats 2000000 in
theorem rof_c (w : World) (v : Value) (l : List LeafI) (p : ByteArray) (h : Sl w 5 v (Leaves l)) (hs : Slim l) (hp : p.size ≤ 1000) : Calls Try.prog 30 #[v, .string p] w (Ret (.agg #[.string p, .int .i64 (filesK l p), .int .i64 (bytesK l p)]) w) := by
  obtain ⟨A, c, rfl, h1, h2, h3⟩ := sl_leaf h
  obtain ⟨s1, s2⟩ := hs
  clear h
  unfold maxLen at h2
  go_enter Try.func30, Try.ntmps30
  go_wp2_with fail
  have hr0 := Blk.new w 55 #[.string ⟨#[]⟩, .int .i64 0, .int .i64 0]
  have hE0 := Ext.alloc w (.cells #[.string ⟨#[]⟩, .int .i64 0, .int .i64 0] 55)
  generalize w.alloc (.cells #[.string ⟨#[]⟩, .int .i64 0, .int .i64 0] 55) = W0 at hr0 hE0 ⊢
  obtain ⟨r, hrr⟩ : ∃ r, r = w.heap.size := ⟨_, rfl⟩
  rw [← hrr]
  rw [← hrr] at hr0
  have n4 : w.heap.size ≤ r := by omega
  clear hrr
  go_loopw [5, 6, 7] (fun f b i wr => ∃ k : Nat, k ≤ l.length ∧ i = .int .i64 k ∧ f = .int .i64 (filesK (l.take k) p : Nat) ∧ b = .int .i64 (bytesK (l.take k) p : Nat) ∧ wr = W0) (fun _ _ i _ => l.length - (intOf i).toNat)
  case atStart => exact ⟨0, by omega, rfl, rfl, rfl, rfl⟩
  case round =>
    obtain ⟨k, hk, rfl, rfl, rfl, rfl⟩ := hrel
    by_cases hlt : k < l.length
    · obtain ⟨b, o, rfl, lb, hcell⟩ := h3 (by omega)
      obtain ⟨c0, c1, c2, c3, c4⟩ := hcell k hlt
      have e1 := hE0.cell c1
      have e4 := hE0.cell c4
      have lb1 := Nat.lt_of_lt_of_le lb hE0.size
      have hsz := s2 _ (List.getElem_mem hlt)
      have hb1 : filesK (l.take k) p ≤ 1000000 := by have := filesK_le (l.take k) p; rw [List.length_take] at this; omega
      have hb2 : bytesK (l.take k) p ≤ 1000000000 := by
        have := bytesK_le (l := l.take k) p 1000 (fun x hx => (s2 x (List.mem_of_mem_take hx)).2)
        rw [List.length_take] at this
        omega
      have S1 := hid (filesK_succ l p k hlt)
      have S2 := hid (bytesK_succ l p k hlt)
      have HC : Hid (∀ W, Calls Try.prog 22 #[.string p, .string l[k].path] W (fun e w' => e = .returned (.bool (cov p l[k].path)) ∧ W = w')) := fun W => rcovers_c _ _ W (by unfold maxLen; omega) (by unfold maxLen; omega)
      have HE := hid hE0
      have HR := hid hr0
      clear hcell h3 hE0 hr0 c0 c1 c2 c3 c4 s2
      generalize l[k] = x at e1 e4 S1 S2 HC hsz
      generalize filesK (l.take k) p = f0 at *
      generalize bytesK (l.take k) p = b0 at *
      cases hc : cov p x.path with
      | true =>
        rw [hc] at HC S1 S2
        simp only [↓reduceIte] at S1 S2
        go_wp2_with (go_at_call 22; refine (HC.out _).mono ?_; rintro e w' ⟨rfl, rfl⟩)
        go_roundw
        case rel => exact ⟨k + 1, by omega, by go_num, by rw [S1.out]; go_num, by rw [S2.out]; go_num, trivial⟩
        case measure => simp [intOf]; omega
      | false =>
        rw [hc] at HC S1 S2
        simp only [Bool.false_eq_true, ↓reduceIte, Nat.add_zero] at S1 S2
        go_wp2_with (go_at_call 22; refine (HC.out _).mono ?_; rintro e w' ⟨rfl, rfl⟩)
        go_roundw
        case rel => exact ⟨k + 1, by omega, by go_num, by rw [S1.out], by rw [S2.out], trivial⟩
        case measure => simp [intOf]; omega
    · obtain rfl : k = l.length := by omega
      rw [List.take_length]
      have r0 := hr0.cell (i := 0) (v := .string ⟨#[]⟩) rfl
      have r1 := hr0.cell (i := 1) (v := .int .i64 0) rfl
      have r2 := hr0.cell (i := 2) (v := .int .i64 0) rfl
      have f0 := hr0.frozen 0
      have f1 := hr0.frozen 1
      have f2 := hr0.frozen 2
      have HE := hid hE0
      have HR := hid hr0
      have lr := hr0.lt
      clear hr0 h3 hE0 s2
      go_wp2_with fail
      have HF : Hid (Blk (((wr.setCell ⟨r, 0, none⟩ (.string p)).setCell ⟨r, 1, none⟩ (.int .i64 (filesK l p : Nat))).setCell ⟨r, 2, none⟩ (.int .i64 (bytesK l p : Nat))) r 55 #[.string p, .int .i64 (filesK l p : Nat), .int .i64 (bytesK l p : Nat)]) := ((HR.out.set 0 (.string p)).set 1 (.int .i64 (filesK l p : Nat))).set 2 (.int .i64 (bytesK l p : Nat))
      refine bodyPost_ret (results_cell_row rfl _ _ r 55 _ (0, 0) _ rfl HF.out Try.underlying55 rfl (show (Try.prog.info? 55).map (·.size) = some 3 by kernel_rfl)) rfl ⟨rfl, ?_⟩
      exact ((HE.out.setCell' n4 _).setCell' n4 _).setCell' n4 _

set_option maxRecDepth 100000 in
set_option maxHeartbeats 1000000 in
theorem same_c (w : World) (u v : Value) (l : List UseI) (hu : Sl w 3 u (Uses l)) (hv : Sl w 3 v (Uses l)) : Calls Try.prog 31 #[u, v] w (Ret (.bool true) w) := by
  obtain ⟨A, c, rfl, h1, h2, h3⟩ := sl_use hu
  obtain ⟨B, d, rfl, k1, k2, k3⟩ := sl_use hv
  clear hu hv
  unfold maxLen at h2 k2
  go_enter Try.func31, Try.ntmps31
  go_wp2_with fail
  go_loopw [5] (fun i wr => ∃ k : Nat, k ≤ l.length ∧ i = .int .i64 k ∧ Ext w wr) (fun i _ => l.length - (intOf i).toNat)
  case atStart => exact ⟨0, by omega, rfl, Ext.refl _⟩
  case round =>
    obtain ⟨k, hk, rfl, hE⟩ := hrel
    by_cases hlt : k < l.length
    · obtain ⟨b, o, rfl, lb, hcell⟩ := h3 (by omega)
      obtain ⟨b', o', rfl, lb', hcell'⟩ := k3 (by omega)
      have c0 := hE.cell (hcell k hlt).1
      have c1 := hE.cell (hcell k hlt).2.1
      have c2 := hE.cell (hcell k hlt).2.2
      have d0 := hE.cell (hcell' k (by omega)).1
      have d1 := hE.cell (hcell' k (by omega)).2.1
      have d2 := hE.cell (hcell' k (by omega)).2.2
      have HE := hid hE
      clear hcell hcell' h3 k3 hE
      generalize l[k] = x at *
      go_wp2_with fail
      go_quiet (fail)
      go_wp2_with fail
      exact ⟨⟨k + 1, by omega, by go_num, HE.out.drewN' _⟩, by simp [intOf]; omega⟩
    · obtain rfl : k = l.length := by omega
      have HE := hid hE
      clear hE h3 k3
      go_wp2_with fail
      go_ret
      exact ⟨rfl, HE.out⟩
end Go.Proofs.Ytfoafookodldfaa
