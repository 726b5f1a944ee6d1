/-
  iset.Of, Put, Join; lighteragelaw14.few, awake.
-/
import Derived.Test.YtefgjkaoidifbaaIsB
namespace Go.Proofs.Ytefgjkaoidifbaa
set_option linter.unusedSimpArgs false
set_option linter.unusedVariables false
open Go.RowKit

set_option maxHeartbeats 400000 in
theorem iof_c (w : World) (v : Value) (l : List Ver) (h : Sl w 2 v (l.map Ver.cells)) (hl : l.length ≤ 1000000) : Calls Try.prog 31 #[v] w (RetQ (RowAt Ver.cells 2 (setL Ver.lt l)) w) := by
  have HS := hid (vsort_c w v l h hl)
  obtain ⟨A, c, rfl, _⟩ := sl_get h
  clear h
  generalize setL Ver.lt l = r at HS ⊢
  go_enter Try.func31, Try.ntmps31
  go_wp2_with (go_at_call 65; refine (HS.out).mono ?_; rintro e w' ⟨v', rfl, hv', hx⟩)
  go_ret
  exact ⟨_, rfl, hv', hx⟩

set_option maxRecDepth 100000 in
set_option maxHeartbeats 1000000 in
theorem put_c (w : World) (v : Value) (l : List Ver) (x : Ver) (h : Sl w 2 v (l.map Ver.cells)) (hl : l.length ≤ 100000) : Calls Try.prog 27 #[v, x.val] w (RetQ (RowAt Ver.cells 2 (setL Ver.lt (l ++ [x]))) w) := by
  have HSl := hid (h.ext (Ext.alloc w (.cells #[.int .i64 x.by_, .int .i64 x.n] 44)))
  obtain ⟨A, c, rfl, h1, h2, _⟩ := sl_get h
  unfold maxLen at h2
  clear h
  unfold Ver.val
  go_enter Try.func27, Try.ntmps27
  go_wp2_with fail
  refine wp_region_any_order (by kernel_rfl) (by kernel_rfl) (by kernel_rfl) ?_
  repeat (first
    | (refine AWq.val rfl rfl rfl rfl (fun K hK => ?_); go_big_quiet_op; refine hK _ ?_; clear hK K)
    | (refine AWq.skip rfl rfl rfl ?_; simp only [Act.put, List.setIfInBounds_toArray, List.set_cons_succ, List.set_cons_zero])
    | (refine AWq.opV (NewSl 44 #[.int .i64 x.by_, .int .i64 x.n] 1 1) (NewSl.steady _ _ _ _) rfl rfl rfl rfl (fun wc hc => ?_) ?_; (· (have hc' := hc.rule; clear hc; go_simp; dsimp only [Gives]; exact ⟨⟨_, rfl, Blk.new _ _ _⟩, Ext.alloc _ _⟩)))
    | (refine AWq.opQ (fun v w => Sl w 2 v ((l ++ [x]).map Ver.cells)) (fun v => Sl.steady 2 _ v) rfl (fun a wc hc hl' => ⟨rfl, ?_⟩) ?_; (· (have e10 : a.tmps.getD 10 undef = .slice A l.length l.length := hl' 10 (of_decide_eq_true (by kernel_rfl)); have e12 : NewSl 44 #[.int .i64 x.by_, .int .i64 x.n] 1 1 (a.tmps.getD 12 undef) wc := hl' 12 (of_decide_eq_true (by kernel_rfl)); obtain ⟨v', w', hr', hS, hE⟩ := app_full (P := Try.prog) (tx := 42) (ty := 42) (m := [x]) ver_elem ver_coded (HSl.out.ext hc) (by have := src_new (P := Try.prog) Try.underlying42 e12 (sz := 2) rfl (ver_coded.one x); exact this) (by omega) (by simp) (by omega); exact gives_app (a := a) (s := .tmp 10) (x := .tmp 12) rfl e10 rfl hr' ⟨hS, hE⟩)))
    | (refine AWq.callQ (RowAt Ver.cells 2 (setL Ver.lt (l ++ [x]))) (RowAt.steady _ _ _) rfl Try.func31 (by kernel_rfl) (by kernel_rfl) rfl rfl rfl (fun wc hc => ?_) ?_; (· (simp only [argsOf, anyAt, ↓reduceIte, Nat.reduceEqDiff, Array.getD_eq_getD_getElem?, List.getElem?_toArray, List.getElem?_cons_succ, List.getElem?_cons_zero, Option.getD_some]; intro y hy; exact iof_c _ y _ hy (by simp; omega))))
    | (refine AWq.opQ (RowAt Ver.cells 2 (setL Ver.lt (l ++ [x]))) (RowAt.steady _ _ _) rfl (fun a wc hc hl' => ⟨rfl, ?_⟩) ?_; (· (have e := hl' 14 (of_decide_eq_true (by kernel_rfl)); exact ⟨e, Ext.refl _⟩))))
  refine AWq.done rfl rfl rfl (fun w1 x1 => ?_)
  simp only [closeAny, Act.put, List.setIfInBounds_toArray, List.set_cons_succ, List.set_cons_zero]
  intro u4 hu4 _ _ _ _ _ _
  go_wp2_with fail
  go_ret
  exact ⟨_, rfl, hu4, (Ext.alloc _ _).trans x1⟩

set_option maxRecDepth 100000 in
set_option maxHeartbeats 1000000 in
theorem join_c (w : World) (v u : Value) (a b : List Ver) (h : Sl w 2 v (a.map Ver.cells)) (hb : Sl w 2 u (b.map Ver.cells)) (hl : a.length ≤ 100000) (hl2 : b.length ≤ 100000) : Calls Try.prog 36 #[v, u] w (RetQ (RowAt Ver.cells 2 (setL Ver.lt (a ++ b))) w) := by
  have hsrc := src_of_sl Try.underlying42 ver_coded hb (Ext.refl w)
  obtain ⟨A, c, rfl, h1, h2, _⟩ := sl_get h
  obtain ⟨A', c', rfl, _⟩ := sl_get hb
  obtain ⟨v', w1, hr, hS, hE⟩ := app_full (P := Try.prog) (tx := 42) (ty := 42) (m := b) ver_elem ver_coded h hsrc (by omega) (by omega) (by omega)
  have HJ := hid (iof_c w1 v' (a ++ b) hS (by simp; omega))
  have HE := hid hE
  unfold maxLen at h2
  clear h hb hsrc hS hE
  generalize setL Ver.lt (a ++ b) = r at HJ ⊢
  go_enter Try.func36, Try.ntmps36
  go_wp2_with (first
    | (at_builtin; refine wpList_app rfl (.tmp 10) (.tmp 11) _ _ rfl rfl rfl hr ?_)
    | (go_at_call 31; refine (HJ.out).mono ?_; rintro e w' ⟨v', rfl, hv', hx⟩))
  go_ret
  exact ⟨_, rfl, hv', HE.out.trans hx⟩

set_option maxHeartbeats 400000 in
theorem few_c (w : World) (v : Value) (l : List Ver) (h : Sl w 2 v (l.map Ver.cells)) : Calls Try.prog 25 #[v] w fun e w' => ∃ v', e = .returned v' ∧ Sl w 2 v' ((l.take 50).map Ver.cells) ∧ w = w' := by
  have h0 := h
  obtain ⟨A, c, rfl, h1, h2, h3⟩ := sl_get h
  unfold maxLen at h2
  clear h
  by_cases hgt : 50 < l.length
  · have d0 : decide ((50 : Int) < (l.length : Int)) = true := by simp; omega
    obtain ⟨b, o, rfl, lb, _⟩ := h3 (by omega)
    have hs := sl_take (m := 50) h0 (by omega)
    rw [← List.map_take] at hs
    have HS := hid hs
    clear hs h0 h3
    go_enter Try.func25, Try.ntmps25
    go_wp2_with fail
    go_ret
    exact ⟨_, rfl, HS.out, rfl⟩
  · have d0 : decide ((50 : Int) < (l.length : Int)) = false := by simp; omega
    have HS : Hid (Sl w 2 (.slice A l.length c) ((l.take 50).map Ver.cells)) := by rw [List.take_of_length_le (by omega)]; exact h0
    clear h0 h3
    go_enter Try.func25, Try.ntmps25
    go_wp2_with fail
    go_ret
    exact ⟨_, rfl, HS.out, rfl⟩

theorem lit_sl {w : World} {n : Nat} (l : List Ver) (cs : Array Value) (hcs : cs = ((l.map Ver.cells).flatten).toArray) (hn : l.length = n) (hm : n ≤ maxLen) : Sl (w.alloc (.cells cs 44)) 2 (.slice (some ⟨w.heap.size, 0, none⟩) n n) (l.map Ver.cells) :=
  Sl.of_flat (Blk.new w 44 cs) ⟨[], by rw [hcs]; simp⟩ (ver_coded.sizes l) (by simpa using hn) (Nat.le_refl _) hm
set_option maxRecDepth 100000 in
set_option maxHeartbeats 2000000 in
theorem awake_c (w : World) : Calls Try.prog 29 #[] w (Ret (.bool true) w) := by
  have hset : setL Ver.lt [⟨2, 1⟩, ⟨1, 3⟩, ⟨2, 1⟩] = [⟨1, 3⟩, ⟨2, 1⟩] := by decide
  have HOf := fun (W : World) => hid (iof_c (W.alloc (.cells #[.int .i64 2, .int .i64 1, .int .i64 1, .int .i64 3, .int .i64 2, .int .i64 1] 44)) _ [⟨2, 1⟩, ⟨1, 3⟩, ⟨2, 1⟩] (lit_sl _ _ rfl rfl (by unfold maxLen; simp)) (by decide))
  have HSame := fun (W : World) (v : Value) (hv : Sl W 2 v (List.map Ver.cells [⟨1, 3⟩, ⟨2, 1⟩])) => hid (rsame_c (W.alloc (.cells #[.int .i64 1, .int .i64 3, .int .i64 2, .int .i64 1] 44)) v _ [⟨1, 3⟩, ⟨2, 1⟩] (hv.ext (Ext.alloc _ _)) (lit_sl _ _ rfl rfl (by unfold maxLen; simp)))
  have HHas := fun (W : World) => hid (has_c (W.alloc (.cells #[.int .i64 1, .int .i64 3] 44)) _ [⟨1, 3⟩] ⟨1, 3⟩ (lit_sl _ _ rfl rfl (by unfold maxLen; simp)))
  rw [hset] at HOf
  rw [show hasV [⟨1, 3⟩] ⟨1, 3⟩ = true from by decide] at HHas
  unfold Ver.val at HHas
  clear hset
  go_enter Try.func29, Try.ntmps29
  go_wp2_with (first
    | (go_at_call 31; refine (HOf _).out.mono ?_; rintro e w1 ⟨v1, rfl, hv1, hx1⟩; have HV := hid hv1.1; have HX1 := hid hx1; clear hv1 hx1)
    | (go_at_call 30; refine (HSame _ _ HV.out).out.mono ?_; rintro e w2 ⟨rfl, hx2⟩; have HX2 := hid hx2; clear hx2)
    | (go_at_call 32; refine (HHas _).out.mono ?_; rintro e w3 ⟨rfl, hx3⟩; have HX3 := hid hx3; clear hx3))
  go_ret
  exact ⟨rfl, (((Ext.alloc _ _).trans HX1.out).trans ((Ext.alloc _ _).trans HX2.out)).trans ((Ext.alloc _ _).trans HX3.out)⟩
end Go.Proofs.Ytefgjkaoidifbaa
