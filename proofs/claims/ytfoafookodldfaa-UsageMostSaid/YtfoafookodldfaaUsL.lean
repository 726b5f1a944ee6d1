/-
  Package usage: Sum.
-/
import Derived.Test.YtfoafookodldfaaUsJ
namespace Go.Proofs.Ytfoafookodldfaa
set_option linter.unusedSimpArgs false
set_option linter.unusedVariables false
open Go.RowKit

def sumF (l : List UseI) : Int := (l.map (·.files)).sum
def sumB (l : List UseI) : Int := (l.map (·.bytes)).sum
theorem sumF_succ (l : List UseI) (k : Nat) (h : k < l.length) : sumF (l.take (k + 1)) = sumF (l.take k) + l[k].files := by
  unfold sumF; rw [List.take_succ_eq_append_getElem h, List.map_append, List.sum_append]; simp
theorem sumB_succ (l : List UseI) (k : Nat) (h : k < l.length) : sumB (l.take (k + 1)) = sumB (l.take k) + l[k].bytes := by
  unfold sumB; rw [List.take_succ_eq_append_getElem h, List.map_append, List.sum_append]; simp
def Mild (l : List UseI) : Prop := l.length ≤ 100 ∧ ∀ u ∈ l, (-1099511627776 ≤ u.files ∧ u.files ≤ 1099511627776) ∧ (-1099511627776 ≤ u.bytes ∧ u.bytes ≤ 1099511627776)
theorem isum_le (B : Int) (h0 : 0 ≤ B) : ∀ m : List Int, (∀ x ∈ m, -B ≤ x ∧ x ≤ B) → ∀ n : Nat, m.length ≤ n → -(n * B) ≤ m.sum ∧ m.sum ≤ n * B
  | [], _, n, _ => by
    have : 0 ≤ (n : Int) * B := Int.mul_nonneg (by omega) h0
    simp; omega
  | x :: m, h, 0, hn => by simp at hn
  | x :: m, h, n + 1, hn => by
    obtain ⟨h1, h2⟩ := isum_le B h0 m (fun y hy => h y (by simp [hy])) n (by simpa using hn)
    have h3 := h x (by simp)
    rw [List.sum_cons]
    have e : ((n + 1 : Nat) : Int) * B = (n : Int) * B + B := by rw [Int.natCast_add, Int.add_mul]; simp
    rw [e]
    omega
theorem mild_sum {l : List UseI} (h : Mild l) (k : Nat) : (-109951162777600 ≤ sumF (l.take k) ∧ sumF (l.take k) ≤ 109951162777600) ∧ (-109951162777600 ≤ sumB (l.take k) ∧ sumB (l.take k) ≤ 109951162777600) := by
  obtain ⟨h1, h2⟩ := h
  constructor
  · have := isum_le 1099511627776 (by omega) ((l.take k).map (·.files)) (fun x hx => by
      obtain ⟨u, hu, rfl⟩ := List.mem_map.1 hx
      exact (h2 u (List.mem_of_mem_take hu)).1) 100 (by rw [List.length_map, List.length_take]; omega)
    unfold sumF
    generalize (List.map (·.files) (l.take k)).sum = z at *
    omega
  · have := isum_le 1099511627776 (by omega) ((l.take k).map (·.bytes)) (fun x hx => by
      obtain ⟨u, hu, rfl⟩ := List.mem_map.1 hx
      exact (h2 u (List.mem_of_mem_take hu)).2) 100 (by rw [List.length_map, List.length_take]; omega)
    unfold sumB
    generalize (List.map (·.bytes) (l.take k)).sum = z at *
    omega

set_option maxRecDepth 100000 in
set_option maxHeartbeats 2000000 in
theorem usum_c (w : World) (v : Value) (l : List UseI) (h : Sl w 3 v (Uses l)) (hs : Mild l) : Calls Try.prog 34 #[v] w (Ret (.agg #[.string ⟨#[]⟩, .int .i64 (sumF l), .int .i64 (sumB l)]) w) := by
  obtain ⟨A, c, rfl, h1, h2, h3⟩ := sl_use h
  have hms := hid (mild_sum hs)
  obtain ⟨s1, s2⟩ := hs
  clear h
  unfold maxLen at h2
  go_enter Try.func34, Try.ntmps34
  go_wp2_with fail
  have hr0 : Blk ((w.alloc (.cells #[.string ⟨#[]⟩, .int .i64 0, .int .i64 0] 55)).alloc (.cells #[.string ⟨#[]⟩, .int .i64 0, .int .i64 0] 55)) w.heap.size 55 #[.string ⟨#[]⟩, .int .i64 0, .int .i64 0] := (Blk.new w _ _).alloc _
  have hg0 : Blk ((w.alloc (.cells #[.string ⟨#[]⟩, .int .i64 0, .int .i64 0] 55)).alloc (.cells #[.string ⟨#[]⟩, .int .i64 0, .int .i64 0] 55)) (w.heap.size + 1) 55 #[.string ⟨#[]⟩, .int .i64 0, .int .i64 0] := by
    have := Blk.new (w.alloc (.cells #[.string ⟨#[]⟩, .int .i64 0, .int .i64 0] 55)) 55 #[.string ⟨#[]⟩, .int .i64 0, .int .i64 0]
    simpa using this
  have hE0 : Ext w ((w.alloc (.cells #[.string ⟨#[]⟩, .int .i64 0, .int .i64 0] 55)).alloc (.cells #[.string ⟨#[]⟩, .int .i64 0, .int .i64 0] 55)) := ((Ext.refl w).alloc' _).alloc' _
  generalize (w.alloc (.cells #[.string ⟨#[]⟩, .int .i64 0, .int .i64 0] 55)).alloc (.cells #[.string ⟨#[]⟩, .int .i64 0, .int .i64 0] 55) = W0 at hr0 hg0 hE0 ⊢
  obtain ⟨r, hrr⟩ : ∃ r, r = w.heap.size := ⟨_, rfl⟩
  obtain ⟨g, hgg⟩ : ∃ g, g = w.heap.size + 1 := ⟨_, rfl⟩
  rw [← hgg, ← hrr]
  rw [← hrr] at hr0
  rw [← hgg] at hg0
  have n2 : r ≠ g := by omega
  have n3 : w.heap.size ≤ g := by omega
  have n4 : w.heap.size ≤ r := by omega
  clear hrr hgg
  go_loopw [8] (fun i wr => ∃ k : Nat, k ≤ l.length ∧ i = .int .i64 k ∧ Ext w wr ∧ Blk wr r 55 #[.string ⟨#[]⟩, .int .i64 0, .int .i64 0] ∧ Blk wr g 55 #[.string ⟨#[]⟩, .int .i64 (sumF (l.take k)), .int .i64 (sumB (l.take k))]) (fun i _ => l.length - (intOf i).toNat)
  case atStart => exact ⟨0, by omega, rfl, hE0, hr0, hg0⟩
  case round =>
    obtain ⟨k, hk, rfl, hE, hr, hg⟩ := hrel
    by_cases hlt : k < l.length
    · obtain ⟨b, o, rfl, lb, hcell⟩ := h3 (by omega)
      obtain ⟨c0, c1, c2⟩ := hcell k hlt
      have e0 := hE.cell c0
      have e1 := hE.cell c1
      have e2 := hE.cell c2
      have lb1 := Nat.lt_of_lt_of_le lb hE.size
      obtain ⟨m1, m2⟩ := s2 _ (List.getElem_mem hlt)
      obtain ⟨m3, m4⟩ := hms.out k
      have S1 := hid (sumF_succ l k hlt)
      have S2 := hid (sumB_succ l k hlt)
      have g1 := hg.cell (i := 1) (v := .int .i64 (sumF (l.take k))) rfl
      have g2 := hg.cell (i := 2) (v := .int .i64 (sumB (l.take k))) rfl
      have fz1 := hg.frozen 1
      have fz2 := hg.frozen 2
      have lg := hg.lt
      have HE := hid hE
      have HR := hid hr
      have HG := hid hg
      clear hcell h3 hE hr hg hE0 hr0 hg0 c0 c1 c2 s2 hms
      generalize l[k].files = xf at *
      generalize l[k].bytes = xb at *
      generalize sumF (l.take k) = f0 at *
      generalize sumB (l.take k) = b0 at *
      go_wp2_with fail
      exact ⟨⟨k + 1, by omega, by go_num, ((HE.out.setCell' (p := ⟨g, 1, none⟩) n3 _).setCell' (p := ⟨g, 2, none⟩) n3 _).alloc' _, ((HR.out.far (p := ⟨g, 1, none⟩) n2 _).far (p := ⟨g, 2, none⟩) n2 _).alloc _, by rw [S1.out, S2.out]; exact ((HG.out.set 1 _).set 2 _).alloc _⟩, by simp [intOf]; omega⟩
    · obtain rfl : k = l.length := by omega
      rw [List.take_length] at hg
      have g0 := hg.cell (i := 0) (v := .string ⟨#[]⟩) rfl
      have g1 := hg.cell (i := 1) (v := .int .i64 (sumF l)) rfl
      have g2 := hg.cell (i := 2) (v := .int .i64 (sumB l)) rfl
      have r0 := hr.cell (i := 0) (v := .string ⟨#[]⟩) rfl
      have r1 := hr.cell (i := 1) (v := .int .i64 0) rfl
      have r2 := hr.cell (i := 2) (v := .int .i64 0) rfl
      have f0 := hr.frozen 0
      have f1 := hr.frozen 1
      have f2 := hr.frozen 2
      have HE := hid hE
      have HR := hid hr
      have lg := hg.lt
      have lr := hr.lt
      clear hE hr hg h3 hE0 hr0 hg0 s2
      go_wp2_with fail
      have HF : Hid (Blk (((wr.setCell ⟨r, 0, none⟩ (.string ⟨#[]⟩)).setCell ⟨r, 1, none⟩ (.int .i64 (sumF l))).setCell ⟨r, 2, none⟩ (.int .i64 (sumB l))) r 55 #[.string ⟨#[]⟩, .int .i64 (sumF l), .int .i64 (sumB l)]) := ((HR.out.set 0 (.string ⟨#[]⟩)).set 1 (.int .i64 (sumF l))).set 2 (.int .i64 (sumB l))
      refine bodyPost_ret (results_cell_row rfl _ _ r 55 _ (0, 0) _ rfl HF.out Try.underlying55 rfl (show (Try.prog.info? 55).map (·.size) = some 3 by kernel_rfl)) rfl ⟨rfl, ?_⟩
      exact ((HE.out.setCell' n4 _).setCell' n4 _).setCell' n4 _
end Go.Proofs.Ytfoafookodldfaa
