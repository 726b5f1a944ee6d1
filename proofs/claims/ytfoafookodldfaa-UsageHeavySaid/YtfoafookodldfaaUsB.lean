/-
  Package usage: Of; the document's Of.
-/
import Derived.Test.YtfoafookodldfaaUsA
import Derived.Laws.Rows
namespace Go.Proofs.Ytfoafookodldfaa
set_option linter.unusedSimpArgs false
set_option linter.unusedVariables false
open Go.RowKit

def filesK (l : List LeafI) (p : ByteArray) : Nat := (l.filter fun x => cov p x.path).length
def bytesK (l : List LeafI) (p : ByteArray) : Nat := ((l.filter fun x => cov p x.path).map (·.data.size)).sum
def ofK (l : List LeafI) (p : ByteArray) : UseI := ⟨p, filesK l p, bytesK l p⟩
def Slim (l : List LeafI) : Prop := l.length ≤ 1000 ∧ ∀ x ∈ l, x.path.size ≤ 1000 ∧ x.data.size ≤ 1000
theorem filesK_succ (l : List LeafI) (p : ByteArray) (k : Nat) (h : k < l.length) : filesK (l.take (k + 1)) p = filesK (l.take k) p + (if cov p l[k].path then 1 else 0) := by
  unfold filesK
  rw [filter_succ _ l k h, List.length_append]
  cases cov p l[k].path <;> rfl
theorem bytesK_succ (l : List LeafI) (p : ByteArray) (k : Nat) (h : k < l.length) : bytesK (l.take (k + 1)) p = bytesK (l.take k) p + (if cov p l[k].path then l[k].data.size else 0) := by
  unfold bytesK
  rw [filter_succ _ l k h, List.map_append, List.sum_append]
  cases cov p l[k].path <;> simp
theorem filesK_le (l : List LeafI) (p : ByteArray) : filesK l p ≤ l.length := List.length_filter_le _ _
theorem sum_le (N : Nat) : ∀ m : List Nat, (∀ x ∈ m, x ≤ N) → m.sum ≤ m.length * N
  | [], _ => by simp
  | x :: m, h => by
    rw [List.sum_cons, List.length_cons, Nat.succ_mul, Nat.add_comm]
    exact Nat.add_le_add (sum_le N m fun y hy => h y (by simp [hy])) (h x (by simp))
theorem bytesK_le {l : List LeafI} (p : ByteArray) (N : Nat) (h : ∀ x ∈ l, x.data.size ≤ N) : bytesK l p ≤ l.length * N := by
  unfold bytesK
  refine Nat.le_trans (sum_le N _ fun z hz => ?_) (Nat.mul_le_mul_right _ (by rw [List.length_map]; exact List.length_filter_le _ _))
  obtain ⟨x, hx, rfl⟩ := List.mem_map.1 hz
  exact h x (List.mem_filter.1 hx).1

set_option maxRecDepth 100000 in
set_option maxHeartbeats 1000000 in
theorem of1_c (w : World) (q g : Nat) (p : ByteArray) (x : LeafI) (f b : Nat) (hq : w.cell? ⟨q, 0, none⟩ = some (.string p)) (hql : q < w.heap.size) (hg : Blk w g 55 #[.string p, .int .i64 f, .int .i64 b]) (hp : p.size ≤ 1000) (hx : x.path.size ≤ 1000) (hd : x.data.size ≤ 1000) (hf : f ≤ 1000000) (hb : b ≤ 1000000000) (f' b' : Nat) (hf' : f' = f + (if cov p x.path then 1 else 0)) (hb' : b' = b + (if cov p x.path then x.data.size else 0)) :
    Calls Try.prog 47 #[.agg #[.string x.name, .string x.path, .int .i64 x.by_, .int .i64 x.n, .string x.data], .pointer (some ⟨q, 0, none⟩), .pointer (some ⟨g, 0, none⟩)] w
      (fun e w' => e = .returned (.tuple #[]) ∧ Blk w' g 55 #[.string p, .int .i64 f', .int .i64 b'] ∧ Keep (fun k => k = g) w w') := by
  have HC : Hid (∀ W, Calls Try.prog 45 #[.string p, .string x.path] W (fun e w' => e = .returned (.bool (cov p x.path)) ∧ W = w')) := fun W => pcovers_c _ _ W (by unfold maxLen; omega) (by unfold maxLen; omega)
  have g1 := hg.cell (i := 1) (v := .int .i64 f) rfl
  have g2 := hg.cell (i := 2) (v := .int .i64 b) rfl
  have fz1 := hg.frozen 1
  have fz2 := hg.frozen 2
  have lg := hg.lt
  have HG := hid hg
  clear hg
  cases hc : cov p x.path with
  | true =>
    rw [hc] at HC hf' hb'
    simp only [↓reduceIte] at hf' hb'
    subst hf'
    subst hb'
    go_enter Try.func47, Try.ntmps47
    go_wp2_with (go_at_call 45; refine (HC.out _).mono ?_; rintro e w' ⟨rfl, rfl⟩)
    refine bodyPost_end (results_none rfl _ _ _) rfl ?_
    refine ⟨rfl, ((HG.out.set 1 _).set 2 _).alloc _, (((Keep.refl (fun k => k = g) w).setCell (.inl rfl) _).setCell (.inl rfl) _).alloc _⟩
  | false =>
    rw [hc] at HC hf' hb'
    simp only [Bool.false_eq_true, ↓reduceIte, Nat.add_zero] at hf' hb'
    subst hf'
    subst hb'
    go_enter Try.func47, Try.ntmps47
    go_wp2_with (go_at_call 45; refine (HC.out _).mono ?_; rintro e w' ⟨rfl, rfl⟩)
    refine bodyPost_end (results_none rfl _ _ _) rfl ?_
    exact ⟨rfl, HG.out.alloc _, (Keep.refl _ w).alloc _⟩

def LeafI.code (x : LeafI) : Array Value := #[.string x.name, .string x.path, .int .i64 x.by_, .int .i64 x.n, .string x.data]
set_option maxRecDepth 100000 in
set_option maxHeartbeats 2000000 in
theorem uof_c (w : World) (v : Value) (l : List LeafI) (p : ByteArray) (h : Sl w 5 v (Leaves l)) (hs : Slim l) (hp : p.size ≤ 1000) : Calls Try.prog 29 #[v, .string p] w (Ret (.agg #[.string p, .int .i64 (filesK l p), .int .i64 (bytesK l p)]) w) := by
  obtain ⟨A, c, rfl, h1, h2, h3⟩ := sl_leaf h
  obtain ⟨s1, s2⟩ := hs
  clear h
  unfold maxLen at h2
  go_enter Try.func29, Try.ntmps29
  go_wp2_with fail
  have hq0 : Blk (((w.alloc (.cells #[.string p] 9)).alloc (.cells #[.string ⟨#[]⟩, .int .i64 0, .int .i64 0] 55)).alloc (.cells #[.string p, .int .i64 0, .int .i64 0] 55)) w.heap.size 9 #[.string p] := ((Blk.new w _ _).alloc _).alloc _
  have hr0 : Blk (((w.alloc (.cells #[.string p] 9)).alloc (.cells #[.string ⟨#[]⟩, .int .i64 0, .int .i64 0] 55)).alloc (.cells #[.string p, .int .i64 0, .int .i64 0] 55)) (w.heap.size + 1) 55 #[.string ⟨#[]⟩, .int .i64 0, .int .i64 0] := by
    have := (Blk.new (w.alloc (.cells #[.string p] 9)) 55 #[.string ⟨#[]⟩, .int .i64 0, .int .i64 0]).alloc (.cells #[.string p, .int .i64 0, .int .i64 0] 55)
    simpa using this
  have hg0 : Blk (((w.alloc (.cells #[.string p] 9)).alloc (.cells #[.string ⟨#[]⟩, .int .i64 0, .int .i64 0] 55)).alloc (.cells #[.string p, .int .i64 0, .int .i64 0] 55)) (w.heap.size + 1 + 1) 55 #[.string p, .int .i64 0, .int .i64 0] := by
    have := Blk.new ((w.alloc (.cells #[.string p] 9)).alloc (.cells #[.string ⟨#[]⟩, .int .i64 0, .int .i64 0] 55)) 55 #[.string p, .int .i64 0, .int .i64 0]
    simpa using this
  have hE0 : Ext w (((w.alloc (.cells #[.string p] 9)).alloc (.cells #[.string ⟨#[]⟩, .int .i64 0, .int .i64 0] 55)).alloc (.cells #[.string p, .int .i64 0, .int .i64 0] 55)) := (((Ext.refl w).alloc' _).alloc' _).alloc' _
  generalize (((w.alloc (.cells #[.string p] 9)).alloc (.cells #[.string ⟨#[]⟩, .int .i64 0, .int .i64 0] 55)).alloc (.cells #[.string p, .int .i64 0, .int .i64 0] 55)) = W0 at hq0 hr0 hg0 hE0 ⊢
  obtain ⟨q, hqq⟩ : ∃ q, q = w.heap.size := ⟨_, rfl⟩
  obtain ⟨r, hrr⟩ : ∃ r, r = w.heap.size + 1 := ⟨_, rfl⟩
  obtain ⟨g, hgg⟩ : ∃ g, g = w.heap.size + 1 + 1 := ⟨_, rfl⟩
  rw [← hgg, ← hrr, ← hqq]
  rw [← hqq] at hq0
  rw [← hrr] at hr0
  rw [← hgg] at hg0
  have n1 : q ≠ g := by omega
  have n2 : r ≠ g := by omega
  have n3 : w.heap.size ≤ g := by omega
  have n4 : w.heap.size ≤ r := by omega
  clear hqq hrr hgg
  go_loopw [14] (fun i wr => ∃ k : Nat, k ≤ l.length ∧ i = .int .i64 k ∧ Ext w wr ∧ Blk wr q 9 #[.string p] ∧ Blk wr r 55 #[.string ⟨#[]⟩, .int .i64 0, .int .i64 0] ∧ Blk wr g 55 #[.string p, .int .i64 (filesK (l.take k) p : Nat), .int .i64 (bytesK (l.take k) p : Nat)]) (fun i _ => l.length - (intOf i).toNat)
  case atStart => exact ⟨0, by omega, rfl, hE0, hq0, hr0, hg0⟩
  case round =>
    obtain ⟨k, hk, rfl, hE, hq, hr, hg⟩ := hrel
    by_cases hlt : k < l.length
    · obtain ⟨b, o, rfl, lb, hcell⟩ := h3 (by omega)
      obtain ⟨c0, c1, c2, c3, c4⟩ := hcell k hlt
      have e0 := hE.cell c0
      have e1 := hE.cell c1
      have e2 := hE.cell c2
      have e3 := hE.cell c3
      have e4 := hE.cell c4
      have lb1 := Nat.lt_of_lt_of_le lb hE.size
      have hsz := s2 _ (List.getElem_mem hlt)
      have hb1 : filesK (l.take k) p ≤ 1000000 := by have := filesK_le (l.take k) p; rw [List.length_take] at this; omega
      have hb2 : bytesK (l.take k) p ≤ 1000000000 := by
        have := bytesK_le (l := l.take k) p 1000 (fun x hx => (s2 x (List.mem_of_mem_take hx)).2)
        rw [List.length_take] at this
        omega
      have HO : Hid (∀ W, Ext wr W → Calls Try.prog 47 #[.agg #[.string l[k].name, .string l[k].path, .int .i64 l[k].by_, .int .i64 l[k].n, .string l[k].data], .pointer (some ⟨q, 0, none⟩), .pointer (some ⟨g, 0, none⟩)] W
        (fun e w' => e = .returned (.tuple #[]) ∧ Blk w' g 55 #[.string p, .int .i64 (filesK (l.take (k + 1)) p : Nat), .int .i64 (bytesK (l.take (k + 1)) p : Nat)] ∧ Keep (fun k => k = g) W w')) := fun W hW =>
        of1_c W q g p l[k] _ _ ((hq.ext hW).cell rfl) (hq.ext hW).lt (hg.ext hW) hp hsz.1 hsz.2 hb1 hb2 _ _ (filesK_succ l p k hlt) (bytesK_succ l p k hlt)
      have HE := hid hE
      have HQ := hid hq
      have HR := hid hr
      clear hcell h3 hE hq hr hg hE0 hq0 hr0 hg0 c0 c1 c2 c3 c4 hsz hb1 hb2 s2
      generalize l[k] = x at e0 e1 e2 e3 e4 HO
      go_wp2_with fail
      refine (HO.out _ (Ext.alloc _ _)).mono ?_
      rintro e w' ⟨rfl, hg', hK⟩
      have HG' := hid hg'
      have HK := hid hK
      clear hg' hK
      go_wp2_with fail
      go_roundw
      case rel => exact ⟨k + 1, by omega, by go_num, Below.trans (HE.out.alloc' _) (HK.out.below (HE.out.alloc' _).size (by rintro _ rfl; exact n3)), (HQ.out.alloc _).keep HK.out n1, (HR.out.alloc _).keep HK.out n2, HG'.out⟩
      case measure => simp [intOf]; omega
    · obtain rfl : k = l.length := by omega
      rw [List.take_length] at hg
      have g0 := hg.cell (i := 0) (v := .string p) rfl
      have g1 := hg.cell (i := 1) (v := .int .i64 (filesK l p : Nat)) rfl
      have g2 := hg.cell (i := 2) (v := .int .i64 (bytesK l p : Nat)) rfl
      have r0 := hr.cell (i := 0) (v := .string ⟨#[]⟩) rfl
      have r1 := hr.cell (i := 1) (v := .int .i64 0) rfl
      have r2 := hr.cell (i := 2) (v := .int .i64 0) rfl
      have f0 := hr.frozen 0
      have f1 := hr.frozen 1
      have f2 := hr.frozen 2
      have HE := hid hE
      have HR := hid hr
      have lg := hg.lt
      have lr := hr.lt
      clear hE hr hg hq h3 hE0 hq0 hr0 hg0 s2
      go_wp2_with fail
      have HF : Hid (Blk (((wr.setCell ⟨r, 0, none⟩ (.string p)).setCell ⟨r, 1, none⟩ (.int .i64 (filesK l p : Nat))).setCell ⟨r, 2, none⟩ (.int .i64 (bytesK l p : Nat))) r 55 #[.string p, .int .i64 (filesK l p : Nat), .int .i64 (bytesK l p : Nat)]) := ((HR.out.set 0 (.string p)).set 1 (.int .i64 (filesK l p : Nat))).set 2 (.int .i64 (bytesK l p : Nat))
      refine bodyPost_ret (results_cell_row rfl _ _ r 55 _ (0, 0) _ rfl HF.out Try.underlying55 rfl (show (Try.prog.info? 55).map (·.size) = some 3 by kernel_rfl)) rfl ⟨rfl, ?_⟩
      exact ((HE.out.setCell' n4 _).setCell' n4 _).setCell' n4 _
end Go.Proofs.Ytfoafookodldfaa
