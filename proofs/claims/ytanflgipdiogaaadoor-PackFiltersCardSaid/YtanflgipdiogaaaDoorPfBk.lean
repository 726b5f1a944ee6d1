/-
  A clause is laid (pack.PutFilter$1).
-/
import Derived.Test.YtanflgipdiogaaaDoorPfAk
import Derived.Test.YtanflgipdiogaaaDoorVcIk
namespace Go.Proofs.YtanflgipdiogaaaDoor
set_option linter.unusedSimpArgs false
set_option linter.unusedVariables false
open Go.RowKit

theorem cl_enc {c : ClauseI} (h : ClauseOk c) : (⟨(encL [fT c.pre, fN c.lo, fN c.hi]).toArray⟩ : ByteArray) = clB c := by
  apply ByteArray.ext
  apply Array.ext'
  unfold clB
  simp only [ByteArray.data_append, Array.toList_append, numB_list h.lo.1, numB_list h.hi.1, textB_list]
  simp [encL, fN, fT, FldI.enc]
theorem clB_size {c : ClauseI} (h : ClauseOk c) : 0 < (clB c).size ∧ (clB c).size ≤ 70 := by
  have h1 := textB_le c.pre (by have := h.pre; omega)
  have h2 := numB_9 (z := c.lo) (by have := h.lo; omega)
  have h3 := numB_9 (z := c.hi) (by have := h.hi; omega)
  have h4 : 0 < (textB c.pre).size := by
    have h : (textB c.pre).data.toList.length = (textB c.pre).size := by rw [Array.length_toList]; rfl
    rw [textB_list, List.length_append] at h
    have := lebL_pos c.pre.size
    omega
  have := h.pre
  unfold clB
  rw [ByteArray.size_append, ByteArray.size_append]
  omega
theorem own_three (w : World) {B : Nat} (hB : B ≤ w.heap.size) (a b c : FldI) : OwnF [a, b, c] B (.slice (some ⟨w.heap.size, 0, none⟩) 3 3) (w.alloc (.cells #[.int .i64 a.n, .string a.s, .bool a.t, .int .i64 b.n, .string b.s, .bool b.t, .int .i64 c.n, .string c.s, .bool c.t] 106)) :=
  own_lit hB 106 3 3 #[.int .i64 a.n, .string a.s, .bool a.t, .int .i64 b.n, .string b.s, .bool b.t, .int .i64 c.n, .string c.s, .bool c.t] (by unfold maxLen; omega) rfl
set_option maxRecDepth 100000 in
set_option maxHeartbeats 4000000 in
theorem putC1_c (w : World) (c : ClauseI) (h : ClauseOk c) : Calls Tryd.prog 47 #[.agg #[.string c.pre, .int .i64 c.lo, .int .i64 c.hi]] w (Ret (.string (clB c)) w) := by
  have HT := fun W => hid (fT_c W c.pre)
  have HN := fun W n => hid (fN_c W n)
  have hok : ∀ f ∈ [fT c.pre, fN c.lo, fN c.hi], f.ok := fun f hf => by
    have h1 := h.pre; have h2 := h.lo; have h3 := h.hi
    simp only [List.mem_cons, List.not_mem_nil, or_false] at hf
    rcases hf with rfl | rfl | rfl
    · exact ⟨by show c.pre.size ≤ _; omega, fun h => (by (have h : true = false := h); cases h), by show (0 : Int) ≤ _; omega⟩
    · exact ⟨Nat.zero_le _, fun _ => h2.1, by show c.lo ≤ _; omega⟩
    · exact ⟨Nat.zero_le _, fun _ => h3.1, by show c.hi ≤ _; omega⟩
  have hlen : (encL [fT c.pre, fN c.lo, fN c.hi]).length ≤ 65536 := by
    have h1 : (encL [fT c.pre, fN c.lo, fN c.hi]).length = (⟨(encL [fT c.pre, fN c.lo, fN c.hi]).toArray⟩ : ByteArray).size := rfl
    have h2 := clB_size h
    rw [cl_enc h] at h1
    omega
  have HP := fun W v (h : Sl W 3 v ([fT c.pre, fN c.lo, fN c.hi].map FldI.cells)) => hid (play_c W v [fT c.pre, fN c.lo, fN c.hi] h hok (by simp) hlen)
  rw [cl_enc h] at HP
  have HE := hid (Ext.alloc w (.cells #[.string c.pre, .int .i64 c.lo, .int .i64 c.hi] 72))
  clear hok hlen h
  generalize clB c = r at HP ⊢
  go_enter Tryd.func47, Tryd.ntmps47
  go_wp2_with fail
  refine wp_region_any_order (by kernel_rfl) (by kernel_rfl) (by kernel_rfl) ?_
  repeat (first
    | (refine AWq.val rfl rfl rfl rfl (fun K hK => ?_); go_big_quiet_op; refine hK _ ?_; clear hK K)
    | (refine AWq.skip rfl rfl rfl ?_; simp only [Act.put, List.setIfInBounds_toArray, List.set_cons_succ, List.set_cons_zero])
    | (refine AWq.call rfl Tryd.func49 (by kernel_rfl) (by kernel_rfl) rfl rfl rfl ?_; apply Exists.intro; refine And.intro (fun wc hc => ?_) ?_; (· (simp only [argsOf, anyAt, ↓reduceIte, Nat.reduceEqDiff, Array.getD_eq_getD_getElem?, List.getElem?_toArray, List.getElem?_cons_succ, List.getElem?_cons_zero, Option.getD_some]; with_reducible exact (HT _).out)); simp only [Act.put, List.setIfInBounds_toArray, List.set_cons_succ, List.set_cons_zero])
    | (refine AWq.call rfl Tryd.func50 (by kernel_rfl) (by kernel_rfl) rfl rfl rfl ?_; apply Exists.intro; refine And.intro (fun wc hc => ?_) ?_; (· (simp only [argsOf, anyAt, ↓reduceIte, Nat.reduceEqDiff, Array.getD_eq_getD_getElem?, List.getElem?_toArray, List.getElem?_cons_succ, List.getElem?_cons_zero, Option.getD_some]; with_reducible exact (HN _ _).out)); simp only [Act.put, List.setIfInBounds_toArray, List.set_cons_succ, List.set_cons_zero])
    | (refine AWq.opV (fun v W => OwnF [fT c.pre, fN c.lo, fN c.hi] w.heap.size v W) (fun v _ _ he h => OwnF.ext h he) rfl rfl rfl rfl (fun wc hc => ?_) ?_; (· (have hc2 := hc.size; have hc' := hc.rule; clear hc; go_simp; dsimp only [Gives]; exact ⟨own_three wc (by have := HE.out.size; omega) (fT c.pre) (fN c.lo) (fN c.hi), Ext.alloc _ _⟩)))
    | (refine AWq.call rfl Tryd.func48 (by kernel_rfl) (by kernel_rfl) rfl rfl rfl ?_; apply Exists.intro; refine And.intro (fun wc hc => ?_) ?_; (· (simp only [argsOf, anyAt, ↓reduceIte, Nat.reduceEqDiff, Array.getD_eq_getD_getElem?, List.getElem?_toArray, List.getElem?_cons_succ, List.getElem?_cons_zero, Option.getD_some]; intro y hy; exact (HP _ _ hy.sl).out)); simp only [Act.put, List.setIfInBounds_toArray, List.set_cons_succ, List.set_cons_zero]))
  refine AWq.done rfl rfl rfl (fun w2 x2 => ?_)
  simp only [closeAny, Act.put, List.setIfInBounds_toArray, List.set_cons_succ, List.set_cons_zero]
  rintro x5 -
  go_wp2_with fail
  go_ret
  exact ⟨rfl, HE.out.trans x2⟩
end Go.Proofs.YtanflgipdiogaaaDoor
