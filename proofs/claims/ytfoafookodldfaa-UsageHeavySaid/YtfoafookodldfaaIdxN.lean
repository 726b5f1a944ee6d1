/-
  Package index: a nil index.
-/
import Derived.Test.YtfoafookodldfaaIdxI
namespace Go.Proofs.Ytfoafookodldfaa
set_option linter.unusedSimpArgs false
set_option linter.unusedVariables false
open Go.RowKit

set_option maxHeartbeats 1000000 in
theorem first_nil (w : World) (fn : Value) : Calls Try.prog 38 #[.pointer none, fn] w (Ret (.int .i64 0) w) := by
  go_enter Try.func38, Try.ntmps38
  go_wp2_with fail
  go_step3
  go_wp2_with (go_at_call 14; refine (len_nil _).mono ?_; rintro e w' ⟨rfl, rfl⟩)
  go_step3
  go_wp2_with fail
  go_loopw [5, 6] (fun a b wr => a = .int .i64 0 ∧ b = .int .i64 0 ∧ wr = w) (fun a b _ => 0)
  case atStart => exact ⟨rfl, rfl, rfl⟩
  case round =>
    obtain ⟨rfl, rfl, rfl⟩ := hrel
    go_wp2_with fail
    rw [Exit.noGoto_ret]
    go_ret
    exact ⟨rfl, Ext.refl _⟩
set_option maxHeartbeats 1000000 in
theorem rank_nil (w : World) (s : ByteArray) : Calls Try.prog 21 #[.pointer none, .string s] w (Ret (.int .i64 0) w) := by
  go_enter Try.func21, Try.ntmps21
  go_wp2_with (go_at_call 38; refine (first_nil _ _).mono ?_; rintro e w' ⟨rfl, hx⟩)
  go_ret
  exact ⟨rfl, ((Ext.refl _).alloc' _).trans hx⟩
theorem lenR_nil (w : World) : Calls Try.prog 14 #[.pointer none] w (Ret (.int .i64 0) w) :=
  (len_nil w).mono fun _ _ ⟨h1, h2⟩ => ⟨h1, h2 ▸ Ext.refl _⟩
set_option maxHeartbeats 1000000 in
theorem find_nil (w : World) (s : ByteArray) : Calls Try.prog 37 #[.pointer none, .string s] w (Ret (.tuple #[.int .i64 0, .bool false]) w) := by
  go_enter Try.func37, Try.ntmps37
  go_wp2_with (go_at_call 21; refine (rank_nil _ _).mono ?_; rintro e w1 ⟨rfl, hx⟩; have Hx := hid hx; clear hx)
  refine wp_region_any_order (by kernel_rfl) (by kernel_rfl) (by kernel_rfl) ?_
  repeat (first
    | (refine AWq.val rfl rfl rfl rfl (fun K hK => ?_); go_big_quiet_op; refine hK _ ?_; clear hK K)
    | (refine AWq.skip rfl rfl rfl ?_; simp only [Act.put, List.setIfInBounds_toArray, List.set_cons_succ, List.set_cons_zero])
    | (refine AWq.call rfl Try.func14 (by kernel_rfl) (by kernel_rfl) rfl rfl rfl ?_; apply Exists.intro; refine And.intro (fun wc hc => ?_) ?_; (· (simp only [argsOf, anyAt, ↓reduceIte, Nat.reduceEqDiff, Array.getD_eq_getD_getElem?, List.getElem?_toArray, List.getElem?_cons_succ, List.getElem?_cons_zero, Option.getD_some]; with_reducible exact lenR_nil _)); simp only [Act.put, List.setIfInBounds_toArray, List.set_cons_succ, List.set_cons_zero]))
  refine AWq.done rfl rfl rfl (fun w2 h2 => ?_)
  simp only [closeAny, Act.put, List.setIfInBounds_toArray, List.set_cons_succ, List.set_cons_zero]
  go_wp2
  go_ret2
  exact ⟨rfl, Hx.out.trans h2⟩
set_option maxHeartbeats 1000000 in
theorem get_nil (w : World) (s : ByteArray) : Calls Try.prog 20 #[.pointer none, .string s] w (Ret (.tuple #[.int .i64 0, .bool false]) w) := by
  go_enter Try.func20, Try.ntmps20
  go_wp2_with (go_at_call 37; refine (find_nil _ _).mono ?_; rintro e w1 ⟨rfl, hx⟩)
  go_ret2
  exact ⟨rfl, hx⟩
set_option maxHeartbeats 1000000 in
theorem at_nil (w : World) (i : Int) : Calls Try.prog 15 #[.pointer none, .int .i64 i] w (Ret (.tuple #[.string ⟨#[]⟩, .int .i64 0, .bool false]) w) := by
  by_cases h0 : 0 ≤ i
  · go_enter Try.func15, Try.ntmps15
    go_wp2_with (go_at_call 14; refine (len_nil _).mono ?_; rintro e w' ⟨rfl, rfl⟩)
    refine bodyPost_ret (v := .tuple #[.string ⟨#[]⟩, .int .i64 0, .bool false]) (by simp [results, Try.results15, go_sem]) rfl ⟨rfl, ?_⟩
    exact Ext.refl _
  · go_enter Try.func15, Try.ntmps15
    go_wp2_with fail
    refine bodyPost_ret (v := .tuple #[.string ⟨#[]⟩, .int .i64 0, .bool false]) (by simp [results, Try.results15, go_sem]) rfl ⟨rfl, ?_⟩
    exact Ext.refl _
set_option maxHeartbeats 1000000 in
theorem next_nil (w : World) (s : ByteArray) : Calls Try.prog 23 #[.pointer none, .string s] w (Ret (.tuple #[.string ⟨#[]⟩, .bool false]) w) := by
  go_enter Try.func23, Try.ntmps23
  go_wp2_with (first
    | (go_at_call 38; refine (first_nil _ _).mono ?_; rintro e w' ⟨rfl, hx⟩)
    | (go_at_call 15; refine (at_nil _ _).mono ?_; rintro e w'' ⟨rfl, hy⟩))
  go_ret2
  exact ⟨rfl, (((Ext.refl _).alloc' _).trans hx).trans hy⟩
set_option maxHeartbeats 1000000 in
theorem put_nil (w : World) (s : ByteArray) (k : Int) : Calls Try.prog 13 #[.pointer none, .string s, .int .i64 k] w (Ret (.bool false) w) := by
  go_enter Try.func13, Try.ntmps13
  go_wp2_with fail
  go_ret
  exact ⟨rfl, Ext.refl _⟩
set_option maxHeartbeats 1000000 in
theorem drop_nil (w : World) (s : ByteArray) : Calls Try.prog 18 #[.pointer none, .string s] w (Ret (.bool false) w) := by
  go_enter Try.func18, Try.ntmps18
  go_wp2_with (go_at_call 37; refine (find_nil _ _).mono ?_; rintro e w1 ⟨rfl, hx⟩)
  go_ret
  exact ⟨rfl, hx⟩
set_option maxRecDepth 100000 in
set_option maxHeartbeats 1000000 in
theorem some_nil (w : World) (s : ByteArray) (f1 f2 : Value) : Calls Try.prog 43 #[.pointer none, .string s, f1, f2] w (Ret (.slice none 0 0) w) := by
  go_enter Try.func43, Try.ntmps43
  go_wp2_with (go_at_call 21; refine (rank_nil _ _).mono ?_; rintro e w1 ⟨rfl, hx⟩)
  go_loopw [9, 10] (fun v i wr => v = .slice none 0 0 ∧ i = .int .i64 0 ∧ Ext w wr) (fun _ i _ => 0)
  case atStart => exact ⟨rfl, rfl, hx⟩
  case round =>
    obtain ⟨rfl, rfl, hE⟩ := hrel
    go_wp2_with (go_at_call 14; refine (len_nil _).mono ?_; rintro e w' ⟨rfl, rfl⟩)
    go_ret
    exact ⟨rfl, hE⟩
set_option maxHeartbeats 1000000 in
theorem under_nil (w : World) (s : ByteArray) : Calls Try.prog 25 #[.pointer none, .string s] w (Ret (.slice none 0 0) w) := by
  have hb := Blk.new w 9 #[.string s]
  have hq := hb.cell (i := 0) rfl
  have lq := hb.lt
  clear hb
  go_enter Try.func25, Try.ntmps25
  go_wp2_with (go_at_call 43; refine (some_nil _ _ _ _).mono ?_; rintro e w' ⟨rfl, hx⟩)
  go_ret
  exact ⟨rfl, ((Ext.refl _).alloc' _).trans hx⟩
set_option maxHeartbeats 1000000 in
theorem begins_nil (w : World) (s : ByteArray) : Calls Try.prog 26 #[.pointer none, .string s] w (Ret (.slice none 0 0) w) := by
  have hb := Blk.new w 9 #[.string s]
  have hq := hb.cell (i := 0) rfl
  have lq := hb.lt
  clear hb
  go_enter Try.func26, Try.ntmps26
  go_wp2_with (go_at_call 43; refine (some_nil _ _ _ _).mono ?_; rintro e w' ⟨rfl, hx⟩)
  go_ret
  exact ⟨rfl, ((Ext.refl _).alloc' _).trans hx⟩
end Go.Proofs.Ytfoafookodldfaa
