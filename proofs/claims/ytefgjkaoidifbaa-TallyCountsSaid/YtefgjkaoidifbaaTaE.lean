/-
  tally.All; few.
-/
import Derived.Test.YtefgjkaoidifbaaTaC
namespace Go.Proofs.Ytefgjkaoidifbaa
set_option linter.unusedSimpArgs false
set_option linter.unusedVariables false
open Go.RowKit Go.Sort Go.Maps

set_option maxRecDepth 100000 in
set_option maxHeartbeats 1000000 in
theorem call_c (w : World) (v : Value) (l : List Cnt) (h : Sl w 4 v (l.map Cnt.cells)) (hl : l.length ≤ 900) (hb : ∀ x ∈ l, Bd 1100000000000 x) : Calls Try.prog 47 #[v] w (Ret (l.foldl addC ⟨0, 0, 0, 0⟩).val w) := by
  obtain ⟨A, c, rfl, h1, h2, h3⟩ := sl_get h
  unfold maxLen at h2
  have HT : Hid (∀ k, k ≤ l.length → Bd 1000000000000000 ((l.take k).foldl addC ⟨0, 0, 0, 0⟩)) := fun k hk => by
    have := foldl_bd 1100000000000 (l.take k) ⟨0, 0, 0, 0⟩ 0 (fun x hx => hb x (List.mem_of_mem_take hx)) (by unfold Bd; simp)
    have hkl : ((l.take k).length : Int) ≤ 900 := by rw [List.length_take]; omega
    unfold Bd at *
    omega
  have HBd := hid hb
  clear h hb
  go_enter Try.func47, Try.ntmps47
  go_wp2_with fail
  have hE0 := (Ext.alloc w (.cells #[.int .i64 0, .int .i64 0, .int .i64 0, .int .i64 0] 58)).alloc' (.cells #[.int .i64 0, .int .i64 0, .int .i64 0, .int .i64 0] 58)
  have hQ0 := Blk.new (w.alloc (.cells #[.int .i64 0, .int .i64 0, .int .i64 0, .int .i64 0] 58)) 58 #[.int .i64 0, .int .i64 0, .int .i64 0, .int .i64 0]
  have hR0 := (Blk.new w 58 #[.int .i64 0, .int .i64 0, .int .i64 0, .int .i64 0]).alloc (.cells #[.int .i64 0, .int .i64 0, .int .i64 0, .int .i64 0] 58)
  rw [show (w.alloc (.cells #[.int .i64 0, .int .i64 0, .int .i64 0, .int .i64 0] 58)).heap.size = w.heap.size + 1 by simp] at hQ0
  obtain ⟨g, hgg⟩ : ∃ g, g = w.heap.size := ⟨_, rfl⟩
  obtain ⟨q, hqq⟩ : ∃ q, q = w.heap.size + 1 := ⟨_, rfl⟩
  rw [← hqq] at hQ0
  rw [← hgg] at hR0
  rw [← hqq, ← hgg]
  have n1 : g ≠ q := by omega
  have n2 : w.heap.size ≤ g := by omega
  have n3 : w.heap.size ≤ q := by omega
  generalize (w.alloc (.cells #[.int .i64 0, .int .i64 0, .int .i64 0, .int .i64 0] 58)).alloc (.cells #[.int .i64 0, .int .i64 0, .int .i64 0, .int .i64 0] 58) = w0 at hE0 hR0 hQ0 ⊢
  clear hgg hqq
  go_loopw [8] (fun i wr => ∃ k : Nat, k ≤ l.length ∧ i = .int .i64 k ∧ Ext w wr ∧ Blk wr g 58 #[.int .i64 0, .int .i64 0, .int .i64 0, .int .i64 0] ∧ Blk wr q 58 ((l.take k).foldl addC ⟨0, 0, 0, 0⟩).cells.toArray) (fun i _ => l.length - (intOf i).toNat)
  case atStart => exact ⟨0, by omega, rfl, hE0, hR0, hQ0⟩
  case round =>
    obtain ⟨k, hk, rfl, hE, hR, hQ⟩ := hrel
    clear hE0 hR0 hQ0
    have HE := hid hE
    have HR := hid hR
    have HQ := hid hQ
    have lq := hQ.lt
    have lg := hR.lt
    have q0 := hQ.cell (i := 0) (v := .int .i64 ((l.take k).foldl addC ⟨0, 0, 0, 0⟩).kind) rfl
    have q1 := hQ.cell (i := 1) (v := .int .i64 ((l.take k).foldl addC ⟨0, 0, 0, 0⟩).acts) rfl
    have q2 := hQ.cell (i := 2) (v := .int .i64 ((l.take k).foldl addC ⟨0, 0, 0, 0⟩).errs) rfl
    have q3 := hQ.cell (i := 3) (v := .int .i64 ((l.take k).foldl addC ⟨0, 0, 0, 0⟩).made) rfl
    by_cases hlt : k < l.length
    · obtain ⟨b', o, rfl, lb, hcell⟩ := h3 (by omega)
      have c0 := hE.cell (hcell k hlt 0 _ rfl)
      have c1 := hE.cell (hcell k hlt 1 _ rfl)
      have c2 := hE.cell (hcell k hlt 2 _ rfl)
      have c3 := hE.cell (hcell k hlt 3 _ rfl)
      rw [Nat.add_zero] at c0
      have lbr := Nat.lt_of_lt_of_le lb hE.size
      have hz := HBd.out _ (List.getElem_mem hlt)
      have hs := HT.out k hk
      have HP := fun W => hid (plus_c ((l.take k).foldl addC ⟨0, 0, 0, 0⟩) l[k] W (by unfold Bd at *; omega) (by unfold Bd at *; omega))
      have HS : Hid ((l.take (k + 1)).foldl addC ⟨0, 0, 0, 0⟩ = addC ((l.take k).foldl addC ⟨0, 0, 0, 0⟩) l[k]) := by
        unfold Hid
        rw [List.take_succ_eq_append_getElem hlt, List.foldl_append]; rfl
      clear hE hcell h3 hQ hR hz hs
      generalize l[k] = z at c0 c1 c2 c3 HP HS
      generalize (l.take k).foldl addC ⟨0, 0, 0, 0⟩ = s at q0 q1 q2 q3 HP HS HQ
      generalize addC s z = y at HP HS
      unfold Cnt.val at HP
      go_wp2_with (go_at_call 73; refine (HP _).out.mono ?_; rintro e w' ⟨rfl, hx⟩; have hq' := (HQ.out.alloc _).ext hx; have HQ' := hid hq'; have HR' := hid ((HR.out.alloc _).ext hx); have HE' := hid ((HE.out.alloc' _).trans hx); have lq' := hq'.lt; have fz0 := hq'.frozen 0; have fz1 := hq'.frozen 1; have fz2 := hq'.frozen 2; have fz3 := hq'.frozen 3; have p0 := hq'.cell (i := 0) (v := .int .i64 s.kind) rfl; have p1 := hq'.cell (i := 1) (v := .int .i64 s.acts) rfl; have p2 := hq'.cell (i := 2) (v := .int .i64 s.errs) rfl; have p3 := hq'.cell (i := 3) (v := .int .i64 s.made) rfl; clear hq' hx)
      exact ⟨⟨k + 1, by omega, by go_num, (((HE'.out.setCell' (p := ⟨q, 0, none⟩) n3 _).setCell' (p := ⟨q, 1, none⟩) n3 _).setCell' (p := ⟨q, 2, none⟩) n3 _).setCell' (p := ⟨q, 3, none⟩) n3 _, (((HR'.out.far (p := ⟨q, 0, none⟩) n1 _).far (p := ⟨q, 1, none⟩) n1 _).far (p := ⟨q, 2, none⟩) n1 _).far (p := ⟨q, 3, none⟩) n1 _, by rw [HS.out]; exact (((HQ'.out.set 0 _).set 1 _).set 2 _).set 3 _⟩, by simp [intOf]; omega⟩
    · obtain rfl : k = l.length := by omega
      rw [List.take_length] at q0 q1 q2 q3
      obtain ⟨s, hs⟩ : ∃ s, s = l.foldl addC ⟨0, 0, 0, 0⟩ := ⟨_, rfl⟩
      rw [← hs] at q0 q1 q2 q3
      have HS := hid hs
      clear hs
      have r0 := hR.cell (i := 0) (v := .int .i64 0) rfl
      have r1 := hR.cell (i := 1) (v := .int .i64 0) rfl
      have r2 := hR.cell (i := 2) (v := .int .i64 0) rfl
      have r3 := hR.cell (i := 3) (v := .int .i64 0) rfl
      have f0 := hR.frozen 0
      have f1 := hR.frozen 1
      have f2 := hR.frozen 2
      have f3 := hR.frozen 3
      clear hE hQ hR h3 HQ HT HBd
      go_wp2_with fail
      have HF : Hid (Blk ((((wr.setCell ⟨g, 0, none⟩ (.int .i64 s.kind)).setCell ⟨g, 1, none⟩ (.int .i64 s.acts)).setCell ⟨g, 2, none⟩ (.int .i64 s.errs)).setCell ⟨g, 3, none⟩ (.int .i64 s.made)) g 58 #[.int .i64 s.kind, .int .i64 s.acts, .int .i64 s.errs, .int .i64 s.made]) := (((HR.out.set 0 (.int .i64 s.kind)).set 1 (.int .i64 s.acts)).set 2 (.int .i64 s.errs)).set 3 (.int .i64 s.made)
      refine bodyPost_ret (results_cell_row rfl _ _ g 58 _ (0, 0) _ rfl HF.out Try.underlying58 rfl (show (Try.prog.info? 58).map (·.size) = some 4 by kernel_rfl)) rfl ⟨by rw [← HS.out]; rfl, ?_⟩
      exact (((HE.out.setCell' n2 _).setCell' n2 _).setCell' n2 _).setCell' n2 _
end Go.Proofs.Ytefgjkaoidifbaa
