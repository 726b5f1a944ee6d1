/-
  The law FilterMatches: its walk.
-/
import Derived.Test.YtgkdiknmjgpgmaaDoorFpF
import Derived.Test.YtgkdiknmjgpgmaaDoorFpG
namespace Go.Proofs.YtgkdiknmjgpgmaaDoor
set_option linter.unusedSimpArgs false
set_option linter.unusedVariables false
open Go.RowKit Go.Sort

theorem form_sizes (l : List Rng) : nf (Sz.setB (Sz.upTo (Sz.holdsB l) 201)) = nf (sizes l) := nf_congr fun n => by
  rw [Sz.setB_upTo, Sz.holdsB_iff]
  exact ⟨fun h => h.2.2, fun h => ⟨h.1, h.2.1, h⟩⟩
set_option maxRecDepth 100000 in
set_option maxHeartbeats 4000000 in
theorem filterMatches_walk (w : World) (m : Int) (hm : w.cell? ⟨0, 0, none⟩ = some (.int .i64 m)) (vf : Value) (f : List ClauseI) (hf : Sl w 3 vf (f.map ClauseI.cells)) (x : FileI) (hx : x.p.size ≤ maxLen) : Calls Tryd.prog 8 #[vf, x.val] w (Ret (.bool true) w) := by
  have HA := fun W (hW : Ext w W) => hid (awake09_c W m (hW.cell hm))
  have L1 := fun W (hW : Ext w W) => hid (lightF_c W vf f (hf.ext hW))
  have HM := fun (h1 : LightF f) (h2 : x.p.size ≤ 1000) W (hW : Ext w W) => hid (fmatch_c W vf f x (hf.ext hW) h2 h1)
  have HR := fun (h1 : LightF f) (h2 : x.p.size ≤ 1000) W (hW : Ext w W) => hid (rmatch09_c W vf f x (hf.ext hW) h2 h1)
  have HS := fun (h1 : LightF f) (h2 : x.p.size ≤ 1000) (h3 : f.length ≤ 5000) W (hW : Ext w W) => hid (fsizes_c W vf f x.p (hf.ext hW) h3 h2 h1)
  have HT := fun (h1 : LightF f) (h2 : x.p.size ≤ 1000) (h3 : f.length ≤ 5000) W (hW : Ext w W) => hid (rsizes_c W vf f x.p (hf.ext hW) h3 h2 h1)
  have HO5 := fun W (v : Value) (hv : Sl W 2 v ((selR f x.p).map Rng.cells)) => hid (Sz.rof8_c W v _ hv)
  have HF5 := fun W (v : Value) (hv : Sl W 1 v ((Sz.upTo (Sz.holdsB (selR f x.p)) 201).map Sz.bitC)) => hid (Sz.rform_c W v _ hv (by rw [Sz.upTo_len]; omega))
  have hfs := form_sizes (selR f x.p)
  rw [hfs] at HF5
  obtain ⟨A, c, rfl, _⟩ := sl_get hf
  generalize nf (sizes (selR f x.p)) = r at HS HF5
  generalize Sz.upTo (Sz.holdsB (selR f x.p)) 201 = bits at HO5 HF5
  generalize selR f x.p = sel at HT HO5
  unfold FileI.val at HM HR ⊢
  unfold maxLen at hx
  clear hm hf hfs
  go_enter Tryd.func8, Tryd.ntmps8
  go_wp2_with fail
  have e0 := Ext.alloc w (.cells #[.string x.p, .int .i64 x.size, .bool x.dead] 49)
  have hb := Blk.new w 49 #[.string x.p, .int .i64 x.size, .bool x.dead]
  generalize w.alloc (.cells #[.string x.p, .int .i64 x.size, .bool x.dead] 49) = w0 at e0 hb ⊢
  generalize w.heap.size = g1 at hb ⊢
  cases l1 : lightF f with
  | false =>
    rw [l1] at L1
    have HE0 := hid e0
    clear l1 HM HR HS HT hb e0
    refine ((L1 _ HE0.out).out).mono ?_
    rintro e w1 ⟨rfl, x1⟩
    have HE1 := hid (HE0.out.trans x1)
    clear x1
    go_wp2_with fail
    refine ((HA _ HE1.out).out).mono ?_
    rintro e w2 ⟨rfl, x2⟩
    have HE2 := hid (HE1.out.trans x2)
    clear x2
    go_wp2_with fail
    go_ret
    exact ⟨rfl, HE2.out⟩
  | true =>
    rw [l1] at L1
    have hlf := (lightF_iff.1 l1).1
    have hll := (lightF_iff.1 l1).2
    refine ((L1 _ e0).out).mono ?_
    rintro e w1 ⟨rfl, x1⟩
    have HE0 := hid (e0.trans x1)
    have hb1 := hb.ext x1
    have q0 := hb1.cell (i := 0) (v := .string x.p) rfl
    have q1 := hb1.cell (i := 1) (v := .int .i64 x.size) rfl
    have q2 := hb1.cell (i := 2) (v := .bool x.dead) rfl
    have ql := hb1.lt
    clear x1 e0 hb hb1 l1 L1
    cases d0 : decide ((200 : Int) < x.p.size) with
    | true =>
      clear HM HR HS HT hlf hll
      go_wp2_with fail
      refine ((HA _ HE0.out).out).mono ?_
      rintro e w2 ⟨rfl, x2⟩
      have HE2 := hid (HE0.out.trans x2)
      clear x2
      go_wp2_with fail
      go_ret
      exact ⟨rfl, HE2.out⟩
    | false =>
      have h2 : x.p.size ≤ 1000 := by simp at d0; omega
      have HA5 := fun W (hW : Ext w1 W) => HA W (HE0.out.trans hW)
      have HM5 := fun W (hW : Ext w1 W) => HM hlf h2 W (HE0.out.trans hW)
      have HR5 := fun W (hW : Ext w1 W) => HR hlf h2 W (HE0.out.trans hW)
      have HS5 := fun W (hW : Ext w1 W) => HS hlf h2 (by omega) W (HE0.out.trans hW)
      have HT5 := fun W (hW : Ext w1 W) => HT hlf h2 (by omega) W (HE0.out.trans hW)
      clear HA HM HR HS HT hlf hll h2
      go_wp2_with fail
      cases hr : f.any (hitB x) with
      | false =>
        rw [hr] at HM5 HR5
        clear hr
        refine wp_region_any_order (by kernel_rfl) (by kernel_rfl) (by kernel_rfl) ?_
        repeat (first
          | (refine AWq.val rfl rfl rfl rfl (fun K hK => ?_); go_big_quiet_op; refine hK _ ?_; clear hK K)
          | (refine AWq.skip rfl rfl rfl ?_; simp only [Act.put, List.setIfInBounds_toArray, List.set_cons_succ, List.set_cons_zero])
          | (refine AWq.call rfl Tryd.func29 (by kernel_rfl) (by kernel_rfl) rfl rfl rfl ?_; apply Exists.intro; refine And.intro (fun wc hc => ?_) ?_; (· (simp only [argsOf, anyAt, ↓reduceIte, Nat.reduceEqDiff, Array.getD_eq_getD_getElem?, List.getElem?_toArray, List.getElem?_cons_succ, List.getElem?_cons_zero, Option.getD_some]; with_reducible exact (HA5 _ hc).out)); simp only [Act.put, List.setIfInBounds_toArray, List.set_cons_succ, List.set_cons_zero])
          | (refine AWq.call rfl Tryd.func33 (by kernel_rfl) (by kernel_rfl) rfl rfl rfl ?_; apply Exists.intro; refine And.intro (fun wc hc => ?_) ?_; (· (simp only [argsOf, anyAt, ↓reduceIte, Nat.reduceEqDiff, Array.getD_eq_getD_getElem?, List.getElem?_toArray, List.getElem?_cons_succ, List.getElem?_cons_zero, Option.getD_some]; with_reducible exact (HM5 _ hc).out)); simp only [Act.put, List.setIfInBounds_toArray, List.set_cons_succ, List.set_cons_zero])
          | (refine AWq.call rfl Tryd.func34 (by kernel_rfl) (by kernel_rfl) rfl rfl rfl ?_; apply Exists.intro; refine And.intro (fun wc hc => ?_) ?_; (· (simp only [argsOf, anyAt, ↓reduceIte, Nat.reduceEqDiff, Array.getD_eq_getD_getElem?, List.getElem?_toArray, List.getElem?_cons_succ, List.getElem?_cons_zero, Option.getD_some]; with_reducible exact (HR5 _ hc).out)); simp only [Act.put, List.setIfInBounds_toArray, List.set_cons_succ, List.set_cons_zero])
          | (refine AWq.callQ (RowAt Rng.cells 2 r) (RowAt.steady _ _ _) rfl Tryd.func36 (by kernel_rfl) (by kernel_rfl) rfl rfl rfl (fun wc hc => ?_) ?_; (· (simp only [argsOf, anyAt, ↓reduceIte, Nat.reduceEqDiff, Array.getD_eq_getD_getElem?, List.getElem?_toArray, List.getElem?_cons_succ, List.getElem?_cons_zero, Option.getD_some]; exact (HS5 _ hc).out)))
          | (refine AWq.callQ (RowAt Rng.cells 2 sel) (RowAt.steady _ _ _) rfl Tryd.func39 (by kernel_rfl) (by kernel_rfl) rfl rfl rfl (fun wc hc => ?_) ?_; (· (simp only [argsOf, anyAt, ↓reduceIte, Nat.reduceEqDiff, Array.getD_eq_getD_getElem?, List.getElem?_toArray, List.getElem?_cons_succ, List.getElem?_cons_zero, Option.getD_some]; exact (HT5 _ hc).out)))
          | (refine AWq.callQ ((fun v w' => Sl w' 1 v (bits.map Sz.bitC))) ((fun v _ _ he h => h.ext he)) rfl Tryd.func38 (by kernel_rfl) (by kernel_rfl) rfl rfl rfl (fun wc hc => ?_) ?_; (· (simp only [argsOf, anyAt, ↓reduceIte, Nat.reduceEqDiff, Array.getD_eq_getD_getElem?, List.getElem?_toArray, List.getElem?_cons_succ, List.getElem?_cons_zero, Option.getD_some]; intro y hy; exact (HO5 _ _ hy.1).out)))
          | (refine AWq.callQ (RowAt Rng.cells 2 r) (RowAt.steady _ _ _) rfl Tryd.func37 (by kernel_rfl) (by kernel_rfl) rfl rfl rfl (fun wc hc => ?_) ?_; (· (simp only [argsOf, anyAt, ↓reduceIte, Nat.reduceEqDiff, Array.getD_eq_getD_getElem?, List.getElem?_toArray, List.getElem?_cons_succ, List.getElem?_cons_zero, Option.getD_some]; intro y hy; exact (HF5 _ _ hy).out)))
          | (refine AWq.call rfl Tryd.func35 (by kernel_rfl) (by kernel_rfl) rfl rfl rfl ?_; apply Exists.intro; refine And.intro (fun wc hc => ?_) ?_; (· (simp only [argsOf, anyAt, ↓reduceIte, Nat.reduceEqDiff, Array.getD_eq_getD_getElem?, List.getElem?_toArray, List.getElem?_cons_succ, List.getElem?_cons_zero, Option.getD_some]; intro y hy z hz; exact Sz.rsame8_c _ _ _ r hy.1 hz.1)); simp only [Act.put, List.setIfInBounds_toArray, List.set_cons_succ, List.set_cons_zero]))
        refine AWq.done rfl rfl rfl (fun w5 x5 => ?_)
        simp only [closeAny, Act.put, List.setIfInBounds_toArray, List.set_cons_succ, List.set_cons_zero]
        intro _ _ _ _ _ _ _ _
        go_wp2_with fail
        go_ret
        exact ⟨rfl, HE0.out.trans x5⟩
      | true =>
        rw [hr] at HM5 HR5
        clear hr
        refine wp_region_any_order (by kernel_rfl) (by kernel_rfl) (by kernel_rfl) ?_
        repeat (first
          | (refine AWq.val rfl rfl rfl rfl (fun K hK => ?_); go_big_quiet_op; refine hK _ ?_; clear hK K)
          | (refine AWq.skip rfl rfl rfl ?_; simp only [Act.put, List.setIfInBounds_toArray, List.set_cons_succ, List.set_cons_zero])
          | (refine AWq.call rfl Tryd.func29 (by kernel_rfl) (by kernel_rfl) rfl rfl rfl ?_; apply Exists.intro; refine And.intro (fun wc hc => ?_) ?_; (· (simp only [argsOf, anyAt, ↓reduceIte, Nat.reduceEqDiff, Array.getD_eq_getD_getElem?, List.getElem?_toArray, List.getElem?_cons_succ, List.getElem?_cons_zero, Option.getD_some]; with_reducible exact (HA5 _ hc).out)); simp only [Act.put, List.setIfInBounds_toArray, List.set_cons_succ, List.set_cons_zero])
          | (refine AWq.call rfl Tryd.func33 (by kernel_rfl) (by kernel_rfl) rfl rfl rfl ?_; apply Exists.intro; refine And.intro (fun wc hc => ?_) ?_; (· (simp only [argsOf, anyAt, ↓reduceIte, Nat.reduceEqDiff, Array.getD_eq_getD_getElem?, List.getElem?_toArray, List.getElem?_cons_succ, List.getElem?_cons_zero, Option.getD_some]; with_reducible exact (HM5 _ hc).out)); simp only [Act.put, List.setIfInBounds_toArray, List.set_cons_succ, List.set_cons_zero])
          | (refine AWq.call rfl Tryd.func34 (by kernel_rfl) (by kernel_rfl) rfl rfl rfl ?_; apply Exists.intro; refine And.intro (fun wc hc => ?_) ?_; (· (simp only [argsOf, anyAt, ↓reduceIte, Nat.reduceEqDiff, Array.getD_eq_getD_getElem?, List.getElem?_toArray, List.getElem?_cons_succ, List.getElem?_cons_zero, Option.getD_some]; with_reducible exact (HR5 _ hc).out)); simp only [Act.put, List.setIfInBounds_toArray, List.set_cons_succ, List.set_cons_zero])
          | (refine AWq.callQ (RowAt Rng.cells 2 r) (RowAt.steady _ _ _) rfl Tryd.func36 (by kernel_rfl) (by kernel_rfl) rfl rfl rfl (fun wc hc => ?_) ?_; (· (simp only [argsOf, anyAt, ↓reduceIte, Nat.reduceEqDiff, Array.getD_eq_getD_getElem?, List.getElem?_toArray, List.getElem?_cons_succ, List.getElem?_cons_zero, Option.getD_some]; exact (HS5 _ hc).out)))
          | (refine AWq.callQ (RowAt Rng.cells 2 sel) (RowAt.steady _ _ _) rfl Tryd.func39 (by kernel_rfl) (by kernel_rfl) rfl rfl rfl (fun wc hc => ?_) ?_; (· (simp only [argsOf, anyAt, ↓reduceIte, Nat.reduceEqDiff, Array.getD_eq_getD_getElem?, List.getElem?_toArray, List.getElem?_cons_succ, List.getElem?_cons_zero, Option.getD_some]; exact (HT5 _ hc).out)))
          | (refine AWq.callQ ((fun v w' => Sl w' 1 v (bits.map Sz.bitC))) ((fun v _ _ he h => h.ext he)) rfl Tryd.func38 (by kernel_rfl) (by kernel_rfl) rfl rfl rfl (fun wc hc => ?_) ?_; (· (simp only [argsOf, anyAt, ↓reduceIte, Nat.reduceEqDiff, Array.getD_eq_getD_getElem?, List.getElem?_toArray, List.getElem?_cons_succ, List.getElem?_cons_zero, Option.getD_some]; intro y hy; exact (HO5 _ _ hy.1).out)))
          | (refine AWq.callQ (RowAt Rng.cells 2 r) (RowAt.steady _ _ _) rfl Tryd.func37 (by kernel_rfl) (by kernel_rfl) rfl rfl rfl (fun wc hc => ?_) ?_; (· (simp only [argsOf, anyAt, ↓reduceIte, Nat.reduceEqDiff, Array.getD_eq_getD_getElem?, List.getElem?_toArray, List.getElem?_cons_succ, List.getElem?_cons_zero, Option.getD_some]; intro y hy; exact (HF5 _ _ hy).out)))
          | (refine AWq.call rfl Tryd.func35 (by kernel_rfl) (by kernel_rfl) rfl rfl rfl ?_; apply Exists.intro; refine And.intro (fun wc hc => ?_) ?_; (· (simp only [argsOf, anyAt, ↓reduceIte, Nat.reduceEqDiff, Array.getD_eq_getD_getElem?, List.getElem?_toArray, List.getElem?_cons_succ, List.getElem?_cons_zero, Option.getD_some]; intro y hy z hz; exact Sz.rsame8_c _ _ _ r hy.1 hz.1)); simp only [Act.put, List.setIfInBounds_toArray, List.set_cons_succ, List.set_cons_zero]))
        refine AWq.done rfl rfl rfl (fun w5 x5 => ?_)
        simp only [closeAny, Act.put, List.setIfInBounds_toArray, List.set_cons_succ, List.set_cons_zero]
        intro _ _ _ _ _ _ _ _
        go_wp2_with fail
        go_ret
        exact ⟨rfl, HE0.out.trans x5⟩
end Go.Proofs.YtgkdiknmjgpgmaaDoor
