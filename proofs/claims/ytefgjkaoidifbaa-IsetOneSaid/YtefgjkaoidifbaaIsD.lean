/-
  The walk of the law IsetOne.
-/
import Derived.Test.YtefgjkaoidifbaaIsC
namespace Go.Proofs.Ytefgjkaoidifbaa
set_option linter.unusedSimpArgs false
set_option linter.unusedVariables false
open Go.RowKit

set_option maxRecDepth 100000 in
set_option maxHeartbeats 4000000 in
theorem one_walk (l0 : List Ver) (x : Ver) (v : Value) (w : World) (h0 : Sl w 2 v (l0.map Ver.cells)) : Calls Try.prog 5 #[v, x.val] w (Ret (.bool true) w) := by
  have hE0 := Ext.alloc w (.cells #[.int .i64 x.by_, .int .i64 x.n] 44)
  have HF := hid (few_c (w.alloc (.cells #[.int .i64 x.by_, .int .i64 x.n] 44)) v l0 (h0.ext hE0))
  have hB0 := Blk.new w 44 #[.int .i64 x.by_, .int .i64 x.n]
  have hl : (l0.take 50).length ≤ 50 := by rw [List.length_take]; omega
  obtain ⟨A, c, rfl, _⟩ := sl_get h0
  clear h0
  generalize l0.take 50 = l at HF hl
  unfold Ver.val
  go_enter Try.func5, Try.ntmps5
  go_wp2_with fail
  generalize w.alloc (.cells #[.int .i64 x.by_, .int .i64 x.n] 44) = w0 at HF hB0 hE0 ⊢
  generalize w.heap.size = g0 at hB0 ⊢
  go_wp2_with (first
    | (go_at_call 25; refine (HF.out).mono ?_; rintro e w' ⟨v1, rfl, hs, rfl⟩; obtain ⟨v2, w2, hr, hs2, he2⟩ := app_copy (P := Try.prog) (tx := 42) (ty := 42) ver_elem ver_coded Try.underlying42 hs (by omega) (by omega); have HS := hid (hs.ext he2); have HS2 := hid hs2; have HE2 := hid he2; clear hs hs2 he2)
    | (at_builtin; refine wpList_app rfl (.tmp 11) (.tmp 12) _ _ rfl rfl rfl hr ?_)
    | (go_at_call 26; refine (rof_c _ _ l HS.out (by omega)).mono ?_; rintro e w3 ⟨v3, rfl, hv3, hx3⟩; have HV3 := hid hv3; have HX3 := hid hx3; clear hv3 hx3))
  have hE3 := HE2.out.trans HX3.out
  have hB3 := hB0.ext hE3
  have HE3 := hid (hE0.trans hE3)
  have c0 := hB3.cell (i := 0) (v := .int .i64 x.by_) rfl
  have c1 := hB3.cell (i := 1) (v := .int .i64 x.n) rfl
  have lg := hB3.lt
  have HSl := hid (HS.out.ext HX3.out)
  have HSl2 := hid (HS2.out.ext HX3.out)
  have hset := setL_length Ver.strict l
  clear hE3 hB3 hB0 hE0 HF HX3 HE2 HS HS2 hr
  have HPut := fun W (he : Ext w3 W) => hid (put_c W v1 l x (HSl.out.ext he) (by omega))
  have HDrop := fun W (he : Ext w3 W) => hid (drop_c W v1 l x (HSl.out.ext he) (by omega))
  have HOf := fun W (he : Ext w3 W) => hid (iof_c W v1 l (HSl.out.ext he) (by omega))
  have HHas := fun W (he : Ext w3 W) => hid (has_c W v1 l x (HSl.out.ext he))
  have HRhas := fun W (he : Ext w3 W) => hid (rhas_c W v1 l x (HSl.out.ext he))
  have HRput := fun W (he : Ext w3 W) => hid (rput_c W v3 (setL Ver.lt l) x (HV3.out.ext he) (by omega))
  have HRmin := fun W u (he : Ext w3 W) (hu : Sl W 2 u (List.map Ver.cells [x])) => hid (rminus_c W v1 u l [x] (HSl.out.ext he) hu (by omega))
  rw [setL_snoc] at HPut
  unfold Ver.val at HPut HDrop HHas HRhas HRput
  refine wp_region_any_order (by kernel_rfl) (by kernel_rfl) (by kernel_rfl) ?_
  repeat (first
    | (refine AWq.val rfl rfl rfl rfl (fun K hK => ?_); go_big_quiet_op; refine hK _ ?_; clear hK K)
    | (refine AWq.skip rfl rfl rfl ?_; simp only [Act.put, List.setIfInBounds_toArray, List.set_cons_succ, List.set_cons_zero])
    | (refine AWq.callQ (RowAt Ver.cells 2 (insL Ver.lt x (setL Ver.lt l))) (RowAt.steady _ _ _) rfl Try.func27 (by kernel_rfl) (by kernel_rfl) rfl rfl rfl (fun wc hc => ?_) ?_; (· (simp only [argsOf, anyAt, ↓reduceIte, Nat.reduceEqDiff, Array.getD_eq_getD_getElem?, List.getElem?_toArray, List.getElem?_cons_succ, List.getElem?_cons_zero, Option.getD_some]; exact (HPut _ hc).out)))
    | (refine AWq.callQ (RowAt Ver.cells 2 (minusV l [x])) (RowAt.steady _ _ _) rfl Try.func28 (by kernel_rfl) (by kernel_rfl) rfl rfl rfl (fun wc hc => ?_) ?_; (· (simp only [argsOf, anyAt, ↓reduceIte, Nat.reduceEqDiff, Array.getD_eq_getD_getElem?, List.getElem?_toArray, List.getElem?_cons_succ, List.getElem?_cons_zero, Option.getD_some]; exact (HDrop _ hc).out)))
    | (refine AWq.opQ (RowAt Ver.cells 2 (insL Ver.lt x (setL Ver.lt l))) (RowAt.steady _ _ _) rfl (fun a wc hc hl' => ⟨rfl, ?_⟩) ?_; (· (have e := hl' 18 (of_decide_eq_true (by kernel_rfl)); exact ⟨e, Ext.refl _⟩)))
    | (refine AWq.opQ (RowAt Ver.cells 2 (minusV l [x])) (RowAt.steady _ _ _) rfl (fun a wc hc hl' => ⟨rfl, ?_⟩) ?_; (· (have e := hl' 21 (of_decide_eq_true (by kernel_rfl)); exact ⟨e, Ext.refl _⟩))))
  refine AWq.done rfl rfl rfl (fun w4 x4 => ?_)
  simp only [closeAny, Act.put, List.setIfInBounds_toArray, List.set_cons_succ, List.set_cons_zero]
  intro d hd p hp _ _ _ _
  have hE4 := x4
  have e0 := x4.cell c0
  have e1 := x4.cell c1
  have lg4 := Nat.lt_of_lt_of_le lg x4.size
  have HS1 := fun W u (he : Ext w4 W) (hu : RowAt Ver.cells 2 (setL Ver.lt l) u W) => hid (rsame_c W u v3 (setL Ver.lt l) hu.1 (HV3.out.ext (x4.trans he)).1)
  have HS2 := fun W u (he : Ext w4 W) (hu : RowAt Ver.cells 2 (insL Ver.lt x (setL Ver.lt l)) u W) => hid (rsame_c W p u (insL Ver.lt x (setL Ver.lt l)) (hp.ext he).1 hu.1)
  have HS3 := fun W u (he : Ext w4 W) (hu : RowAt Ver.cells 2 (minusV l [x]) u W) => hid (rsame_c W d u (minusV l [x]) (hd.ext he).1 hu.1)
  have HS4 := fun W (he : Ext w4 W) => hid (rsame_c W v1 v2 l (HSl.out.ext (x4.trans he)) (HSl2.out.ext (x4.trans he)))
  have HOf' := fun W (he : Ext w4 W) => HOf W (x4.trans he)
  have HHas' := fun W (he : Ext w4 W) => HHas W (x4.trans he)
  have HRhas' := fun W (he : Ext w4 W) => HRhas W (x4.trans he)
  have HRput' := fun W (he : Ext w4 W) => HRput W (x4.trans he)
  have HRmin' := fun W u (he : Ext w4 W) => HRmin W u (x4.trans he)
  have HE4 := hid (HE3.out.trans x4)
  clear HPut HDrop HOf HHas HRhas HRput HRmin hE4 x4 c0 c1 lg HE3 hp hd
  generalize hasV l x = r at *
  go_wp2_with fail
  refine wp_region_any_order (by kernel_rfl) (by kernel_rfl) (by kernel_rfl) ?_
  repeat (first
    | (refine AWq.val rfl rfl rfl rfl (fun K hK => ?_); go_big_quiet_op; refine hK _ ?_; clear hK K)
    | (refine AWq.skip rfl rfl rfl ?_; simp only [Act.put, List.setIfInBounds_toArray, List.set_cons_succ, List.set_cons_zero])
    | (refine AWq.call rfl Try.func29 (by kernel_rfl) (by kernel_rfl) rfl rfl rfl ?_; apply Exists.intro; refine And.intro (fun wc hc => ?_) ?_; (· (simp only [argsOf, anyAt, ↓reduceIte, Nat.reduceEqDiff, Array.getD_eq_getD_getElem?, List.getElem?_toArray, List.getElem?_cons_succ, List.getElem?_cons_zero, Option.getD_some]; with_reducible exact awake_c _)); simp only [Act.put, List.setIfInBounds_toArray, List.set_cons_succ, List.set_cons_zero])
    | (refine AWq.callQ (RowAt Ver.cells 2 (setL Ver.lt l)) (RowAt.steady _ _ _) rfl Try.func31 (by kernel_rfl) (by kernel_rfl) rfl rfl rfl (fun wc hc => ?_) ?_; (· (simp only [argsOf, anyAt, ↓reduceIte, Nat.reduceEqDiff, Array.getD_eq_getD_getElem?, List.getElem?_toArray, List.getElem?_cons_succ, List.getElem?_cons_zero, Option.getD_some]; exact (HOf' _ hc).out)))
    | (refine AWq.call rfl Try.func32 (by kernel_rfl) (by kernel_rfl) rfl rfl rfl ?_; apply Exists.intro; refine And.intro (fun wc hc => ?_) ?_; (· (simp only [argsOf, anyAt, ↓reduceIte, Nat.reduceEqDiff, Array.getD_eq_getD_getElem?, List.getElem?_toArray, List.getElem?_cons_succ, List.getElem?_cons_zero, Option.getD_some]; with_reducible exact (HHas' _ hc).out)); simp only [Act.put, List.setIfInBounds_toArray, List.set_cons_succ, List.set_cons_zero])
    | (refine AWq.call rfl Try.func33 (by kernel_rfl) (by kernel_rfl) rfl rfl rfl ?_; apply Exists.intro; refine And.intro (fun wc hc => ?_) ?_; (· (simp only [argsOf, anyAt, ↓reduceIte, Nat.reduceEqDiff, Array.getD_eq_getD_getElem?, List.getElem?_toArray, List.getElem?_cons_succ, List.getElem?_cons_zero, Option.getD_some]; with_reducible exact (HRhas' _ hc).out)); simp only [Act.put, List.setIfInBounds_toArray, List.set_cons_succ, List.set_cons_zero])
    | (refine AWq.callQ (RowAt Ver.cells 2 (insL Ver.lt x (setL Ver.lt l))) (RowAt.steady _ _ _) rfl Try.func34 (by kernel_rfl) (by kernel_rfl) rfl rfl rfl (fun wc hc => ?_) ?_; (· (simp only [argsOf, anyAt, ↓reduceIte, Nat.reduceEqDiff, Array.getD_eq_getD_getElem?, List.getElem?_toArray, List.getElem?_cons_succ, List.getElem?_cons_zero, Option.getD_some]; exact (HRput' _ hc).out)))
    | (refine AWq.opV (NewSl 44 #[.int .i64 x.by_, .int .i64 x.n] 1 1) (NewSl.steady _ _ _ _) rfl rfl rfl rfl (fun wc hc => ?_) ?_; (· (have hc' := hc.rule; clear hc; go_simp; dsimp only [Gives]; exact ⟨⟨_, rfl, Blk.new _ _ _⟩, Ext.alloc _ _⟩)))
    | (refine AWq.callQ (RowAt Ver.cells 2 (minusV l [x])) (RowAt.steady _ _ _) rfl Try.func35 (by kernel_rfl) (by kernel_rfl) rfl rfl rfl (fun wc hc => ?_) ?_; (· (simp only [argsOf, anyAt, ↓reduceIte, Nat.reduceEqDiff, Array.getD_eq_getD_getElem?, List.getElem?_toArray, List.getElem?_cons_succ, List.getElem?_cons_zero, Option.getD_some]; intro y hy; obtain ⟨g, rfl, hg⟩ := hy; exact (HRmin' _ _ hc (Sl.of_flat hg ⟨[], rfl⟩ (by simp [Ver.cells]) rfl (Nat.le_refl _) (by simp [maxLen]))).out)))
    | ((refine AWq.call rfl Try.func30 (by kernel_rfl) (by kernel_rfl) rfl rfl rfl ?_; apply Exists.intro; refine And.intro (fun wc hc => ?_) ?_; (· (simp only [argsOf, anyAt, ↓reduceIte, Nat.reduceEqDiff, Array.getD_eq_getD_getElem?, List.getElem?_toArray, List.getElem?_cons_succ, List.getElem?_cons_zero, Option.getD_some]; first | exact fun y hy => (HS1 _ y hc hy).out | exact fun y hy => (HS2 _ y hc hy).out | exact fun y hy => (HS3 _ y hc hy).out | exact (HS4 _ hc).out)); simp only [Act.put, List.setIfInBounds_toArray, List.set_cons_succ, List.set_cons_zero])))
  refine AWq.done rfl rfl rfl (fun w5 x5 => ?_)
  simp only [closeAny, Act.put, List.setIfInBounds_toArray, List.set_cons_succ, List.set_cons_zero]
  intro _ _ _ _ _ _ _ _
  go_wp2_with fail
  go_ret
  exact ⟨rfl, HE4.out.trans x5⟩
end Go.Proofs.Ytefgjkaoidifbaa
