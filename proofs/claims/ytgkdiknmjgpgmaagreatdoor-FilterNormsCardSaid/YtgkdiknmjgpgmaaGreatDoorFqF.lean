/-
  The law FilterNorms: its walk.
-/
import Derived.Test.YtgkdiknmjgpgmaaGreatDoorFqE
import Derived.Test.YtgkdiknmjgpgmaaGreatDoorFqB
import Derived.Test.YtgkdiknmjgpgmaaGreatDoorFpF
import Derived.Test.YtgkdiknmjgpgmaaGreatDoorFpG
namespace Go.Proofs.YtgkdiknmjgpgmaaGreatDoor
set_option linter.unusedSimpArgs false
set_option linter.unusedVariables false
open Go.RowKit Go.Sort

theorem sane_light {f : List ClauseI} (h : LightF f) : LightF (saneF f) := fun c hc => h c (List.mem_filter.1 hc).1
theorem sane_right {f : List ClauseI} : ∀ c ∈ saneF f, rightC c = true := fun c hc => (List.mem_filter.1 hc).2
theorem sane_short {f : List ClauseI} {N : Nat} (h : f.length ≤ N) : (saneF f).length ≤ N := by
  have := saneF_len f f.length
  rw [List.take_length] at this
  omega
theorem requal_same (w : World) (u v : Value) (a : List ClauseI) (hu : Sl w 3 u (a.map ClauseI.cells)) (hv : Sl w 3 v (a.map ClauseI.cells)) : Calls Tryz.prog 9 #[u, v] w (Ret (.bool true) w) := by
  have := requal_c w u v a a hu hv
  rwa [decide_eq_true rfl] at this
set_option maxRecDepth 100000 in
set_option maxHeartbeats 4000000 in
theorem filterNorms_walk (w : World) (m : Int) (hm : w.cell? ⟨0, 0, none⟩ = some (.int .i64 m)) (vf : Value) (f : List ClauseI) (hf : Sl w 3 vf (f.map ClauseI.cells)) (x : FileI) (hx : x.p.size ≤ maxLen) : Calls Tryz.prog 3 #[vf, x.val] w (Ret (.bool true) w) := by
  have HA := fun W (hW : Ext w W) => hid (awake09_c W m (hW.cell hm))
  have L1 := fun W (hW : Ext w W) => hid (lightF_c W vf f (hf.ext hW))
  have HSn := fun (h1 : LightF f) (h3 : f.length ≤ 5000) W (hW : Ext w W) => hid (sane_c W vf f (hf.ext hW) h3 h1)
  obtain ⟨A, c, rfl, _⟩ := sl_get hf
  unfold FileI.val
  unfold maxLen at hx
  clear hm hf
  go_enter Tryz.func3, Tryz.ntmps3
  go_wp2_with fail
  have e0 := Ext.alloc w (.cells #[.string x.p, .int .i64 x.size, .bool x.dead] 24)
  have hb := Blk.new w 24 #[.string x.p, .int .i64 x.size, .bool x.dead]
  generalize w.alloc (.cells #[.string x.p, .int .i64 x.size, .bool x.dead] 24) = w0 at e0 hb ⊢
  generalize w.heap.size = g1 at hb ⊢
  cases l1 : lightF f with
  | false =>
    rw [l1] at L1
    have HE0 := hid e0
    clear l1 HSn hb e0
    refine ((L1 _ HE0.out).out).mono ?_
    rintro e w1 ⟨rfl, x1⟩
    have HE1 := hid (HE0.out.trans x1)
    clear x1
    go_wp2_with fail
    refine ((HA _ HE1.out).out).mono ?_
    rintro e w2 ⟨rfl, x2⟩
    have HE2 := hid (HE1.out.trans x2)
    clear x2
    go_wp2_with fail
    go_ret
    exact ⟨rfl, HE2.out⟩
  | true =>
    rw [l1] at L1
    have hlf := (lightF_iff.1 l1).1
    have hll := (lightF_iff.1 l1).2
    refine ((L1 _ e0).out).mono ?_
    rintro e w1 ⟨rfl, x1⟩
    have HE0 := hid (e0.trans x1)
    have hb1 := hb.ext x1
    have q0 := hb1.cell (i := 0) (v := .string x.p) rfl
    have q1 := hb1.cell (i := 1) (v := .int .i64 x.size) rfl
    have q2 := hb1.cell (i := 2) (v := .bool x.dead) rfl
    have ql := hb1.lt
    have HB1 := hid hb1
    clear x1 e0 hb hb1 l1 L1
    cases d0 : decide ((200 : Int) < x.p.size) with
    | true =>
      clear HSn hlf hll
      go_wp2_with fail
      refine ((HA _ HE0.out).out).mono ?_
      rintro e w2 ⟨rfl, x2⟩
      have HE2 := hid (HE0.out.trans x2)
      clear x2
      go_wp2_with fail
      go_ret
      exact ⟨rfl, HE2.out⟩
    | false =>
      have h2 : x.p.size ≤ 1000 := by simp at d0; omega
      have HSn := HSn hlf (by omega)
      have hsl := sane_light hlf
      have hsr := sane_right (f := f)
      have hss := sane_short hll
      go_wp2_with fail
      refine ((HSn _ HE0.out).out).mono ?_
      rintro e w2 ⟨v2, rfl, hv2, x2⟩
      have hs2 := hv2.1
      have HE1 := hid (HE0.out.trans x2)
      have hb2 := HB1.out.ext x2
      have HB2 := hid hb2
      obtain ⟨A1, c1, rfl, _⟩ := sl_get hs2
      generalize saneF f = sf at *
      have hnl := normF_light hsl
      have hns := normF_len hss
      have HN0 := hid (fnorm_c w2 _ sf hs2 (by omega) hsl)
      have HSs := hid hs2
      clear x2 HE0 hb2 HB1 q0 q1 q2 ql HSn hs2 hv2
      go_wp2_with fail
      refine ((HN0).out).mono ?_
      rintro e w3 ⟨v3, rfl, hv3, x3⟩
      have hs3 := hv3.1
      have HE0 := hid (HE1.out.trans x3)
      have hb3 := HB2.out.ext x3
      have q0 := hb3.cell (i := 0) (v := .string x.p) rfl
      have q1 := hb3.cell (i := 1) (v := .int .i64 x.size) rfl
      have q2 := hb3.cell (i := 2) (v := .bool x.dead) rfl
      have ql := hb3.lt
      obtain ⟨A2, c2, rfl, _⟩ := sl_get hs3
      have hs1 := HSs.out.ext x3
      have hnn : normF (normF sf) = normF sf := norm_again sf
      have hnh : (normF sf).any (hitB x) = sf.any (hitB x) := norm_hits hsr x
      have HA5 := fun W (hW : Ext w3 W) => HA W (HE0.out.trans hW)
      have HM5 := fun W (hW : Ext w3 W) => hid (fmatch_c W _ (normF sf) x (hs3.ext hW) h2 hnl)
      have HR5 := fun W (hW : Ext w3 W) => hid (rmatch09_c W _ sf x (hs1.ext hW) h2 hsl)
      have HN5 := fun W (hW : Ext w3 W) => hid (rnorm_c W _ sf (hs1.ext hW) (by omega) hsl)
      have HF5 := fun W (hW : Ext w3 W) => hid (fnorm_c W _ (normF sf) (hs3.ext hW) (by omega) hnl)
      have HE5 := fun W (hW : Ext w3 W) => hid (fsame_c W _ _ sf (normF sf) (hs1.ext hW) (hs3.ext hW) (by omega) (by omega) hsl hnl)
      rw [hnh] at HM5
      rw [hnn] at HF5 HE5
      rw [decide_eq_true rfl] at HE5
      have HS2 := hid hs3
      unfold FileI.val at HM5 HR5
      clear x3 hb3 HB2 HE1 HN0 HSs hs1 hs3 hv3 hnn hnh hsl hsr hss hnl hlf hll h2 HA
      generalize normF sf = n at *
      generalize sf.any (hitB x) = r at HM5 HR5
      go_wp2_with fail
      cases r with
      | false =>
        refine wp_region_any_order (by kernel_rfl) (by kernel_rfl) (by kernel_rfl) ?_
        repeat (first
          | (refine AWq.val rfl rfl rfl rfl (fun K hK => ?_); go_big_quiet_op; refine hK _ ?_; clear hK K)
          | (refine AWq.skip rfl rfl rfl ?_; simp only [Act.put, List.setIfInBounds_toArray, List.set_cons_succ, List.set_cons_zero])
          | (refine AWq.call rfl Tryz.func6 (by kernel_rfl) (by kernel_rfl) rfl rfl rfl ?_; apply Exists.intro; refine And.intro (fun wc hc => ?_) ?_; (· (simp only [argsOf, anyAt, ↓reduceIte, Nat.reduceEqDiff, Array.getD_eq_getD_getElem?, List.getElem?_toArray, List.getElem?_cons_succ, List.getElem?_cons_zero, Option.getD_some]; with_reducible exact (HA5 _ hc).out)); simp only [Act.put, List.setIfInBounds_toArray, List.set_cons_succ, List.set_cons_zero])
          | (refine AWq.call rfl Tryz.func11 (by kernel_rfl) (by kernel_rfl) rfl rfl rfl ?_; apply Exists.intro; refine And.intro (fun wc hc => ?_) ?_; (· (simp only [argsOf, anyAt, ↓reduceIte, Nat.reduceEqDiff, Array.getD_eq_getD_getElem?, List.getElem?_toArray, List.getElem?_cons_succ, List.getElem?_cons_zero, Option.getD_some]; with_reducible exact (HM5 _ hc).out)); simp only [Act.put, List.setIfInBounds_toArray, List.set_cons_succ, List.set_cons_zero])
          | (refine AWq.call rfl Tryz.func12 (by kernel_rfl) (by kernel_rfl) rfl rfl rfl ?_; apply Exists.intro; refine And.intro (fun wc hc => ?_) ?_; (· (simp only [argsOf, anyAt, ↓reduceIte, Nat.reduceEqDiff, Array.getD_eq_getD_getElem?, List.getElem?_toArray, List.getElem?_cons_succ, List.getElem?_cons_zero, Option.getD_some]; with_reducible exact (HR5 _ hc).out)); simp only [Act.put, List.setIfInBounds_toArray, List.set_cons_succ, List.set_cons_zero])
          | (refine AWq.callQ (RowAt ClauseI.cells 3 n) (RowAt.steady _ _ _) rfl Tryz.func10 (by kernel_rfl) (by kernel_rfl) rfl rfl rfl (fun wc hc => ?_) ?_; (· (simp only [argsOf, anyAt, ↓reduceIte, Nat.reduceEqDiff, Array.getD_eq_getD_getElem?, List.getElem?_toArray, List.getElem?_cons_succ, List.getElem?_cons_zero, Option.getD_some]; exact (HN5 _ hc).out)))
          | (refine AWq.callQ (RowAt ClauseI.cells 3 n) (RowAt.steady _ _ _) rfl Tryz.func8 (by kernel_rfl) (by kernel_rfl) rfl rfl rfl (fun wc hc => ?_) ?_; (· (simp only [argsOf, anyAt, ↓reduceIte, Nat.reduceEqDiff, Array.getD_eq_getD_getElem?, List.getElem?_toArray, List.getElem?_cons_succ, List.getElem?_cons_zero, Option.getD_some]; exact (HF5 _ hc).out)))
          | (refine AWq.call rfl Tryz.func9 (by kernel_rfl) (by kernel_rfl) rfl rfl rfl ?_; apply Exists.intro; refine And.intro (fun wc hc => ?_) ?_; (· (simp only [argsOf, anyAt, ↓reduceIte, Nat.reduceEqDiff, Array.getD_eq_getD_getElem?, List.getElem?_toArray, List.getElem?_cons_succ, List.getElem?_cons_zero, Option.getD_some]; intro y hy; first | exact requal_same _ _ _ n (HS2.out.ext hc) hy.1 | exact requal_same _ _ _ n hy.1 (HS2.out.ext hc))); simp only [Act.put, List.setIfInBounds_toArray, List.set_cons_succ, List.set_cons_zero])
          | (refine AWq.call rfl Tryz.func13 (by kernel_rfl) (by kernel_rfl) rfl rfl rfl ?_; apply Exists.intro; refine And.intro (fun wc hc => ?_) ?_; (· (simp only [argsOf, anyAt, ↓reduceIte, Nat.reduceEqDiff, Array.getD_eq_getD_getElem?, List.getElem?_toArray, List.getElem?_cons_succ, List.getElem?_cons_zero, Option.getD_some]; with_reducible exact (HE5 _ hc).out)); simp only [Act.put, List.setIfInBounds_toArray, List.set_cons_succ, List.set_cons_zero]))
        refine AWq.done rfl rfl rfl (fun w5 x5 => ?_)
        simp only [closeAny, Act.put, List.setIfInBounds_toArray, List.set_cons_succ, List.set_cons_zero]
        intro _ _ _ _
        go_wp2_with fail
        go_ret
        exact ⟨rfl, HE0.out.trans x5⟩
      | true =>
        refine wp_region_any_order (by kernel_rfl) (by kernel_rfl) (by kernel_rfl) ?_
        repeat (first
          | (refine AWq.val rfl rfl rfl rfl (fun K hK => ?_); go_big_quiet_op; refine hK _ ?_; clear hK K)
          | (refine AWq.skip rfl rfl rfl ?_; simp only [Act.put, List.setIfInBounds_toArray, List.set_cons_succ, List.set_cons_zero])
          | (refine AWq.call rfl Tryz.func6 (by kernel_rfl) (by kernel_rfl) rfl rfl rfl ?_; apply Exists.intro; refine And.intro (fun wc hc => ?_) ?_; (· (simp only [argsOf, anyAt, ↓reduceIte, Nat.reduceEqDiff, Array.getD_eq_getD_getElem?, List.getElem?_toArray, List.getElem?_cons_succ, List.getElem?_cons_zero, Option.getD_some]; with_reducible exact (HA5 _ hc).out)); simp only [Act.put, List.setIfInBounds_toArray, List.set_cons_succ, List.set_cons_zero])
          | (refine AWq.call rfl Tryz.func11 (by kernel_rfl) (by kernel_rfl) rfl rfl rfl ?_; apply Exists.intro; refine And.intro (fun wc hc => ?_) ?_; (· (simp only [argsOf, anyAt, ↓reduceIte, Nat.reduceEqDiff, Array.getD_eq_getD_getElem?, List.getElem?_toArray, List.getElem?_cons_succ, List.getElem?_cons_zero, Option.getD_some]; with_reducible exact (HM5 _ hc).out)); simp only [Act.put, List.setIfInBounds_toArray, List.set_cons_succ, List.set_cons_zero])
          | (refine AWq.call rfl Tryz.func12 (by kernel_rfl) (by kernel_rfl) rfl rfl rfl ?_; apply Exists.intro; refine And.intro (fun wc hc => ?_) ?_; (· (simp only [argsOf, anyAt, ↓reduceIte, Nat.reduceEqDiff, Array.getD_eq_getD_getElem?, List.getElem?_toArray, List.getElem?_cons_succ, List.getElem?_cons_zero, Option.getD_some]; with_reducible exact (HR5 _ hc).out)); simp only [Act.put, List.setIfInBounds_toArray, List.set_cons_succ, List.set_cons_zero])
          | (refine AWq.callQ (RowAt ClauseI.cells 3 n) (RowAt.steady _ _ _) rfl Tryz.func10 (by kernel_rfl) (by kernel_rfl) rfl rfl rfl (fun wc hc => ?_) ?_; (· (simp only [argsOf, anyAt, ↓reduceIte, Nat.reduceEqDiff, Array.getD_eq_getD_getElem?, List.getElem?_toArray, List.getElem?_cons_succ, List.getElem?_cons_zero, Option.getD_some]; exact (HN5 _ hc).out)))
          | (refine AWq.callQ (RowAt ClauseI.cells 3 n) (RowAt.steady _ _ _) rfl Tryz.func8 (by kernel_rfl) (by kernel_rfl) rfl rfl rfl (fun wc hc => ?_) ?_; (· (simp only [argsOf, anyAt, ↓reduceIte, Nat.reduceEqDiff, Array.getD_eq_getD_getElem?, List.getElem?_toArray, List.getElem?_cons_succ, List.getElem?_cons_zero, Option.getD_some]; exact (HF5 _ hc).out)))
          | (refine AWq.call rfl Tryz.func9 (by kernel_rfl) (by kernel_rfl) rfl rfl rfl ?_; apply Exists.intro; refine And.intro (fun wc hc => ?_) ?_; (· (simp only [argsOf, anyAt, ↓reduceIte, Nat.reduceEqDiff, Array.getD_eq_getD_getElem?, List.getElem?_toArray, List.getElem?_cons_succ, List.getElem?_cons_zero, Option.getD_some]; intro y hy; first | exact requal_same _ _ _ n (HS2.out.ext hc) hy.1 | exact requal_same _ _ _ n hy.1 (HS2.out.ext hc))); simp only [Act.put, List.setIfInBounds_toArray, List.set_cons_succ, List.set_cons_zero])
          | (refine AWq.call rfl Tryz.func13 (by kernel_rfl) (by kernel_rfl) rfl rfl rfl ?_; apply Exists.intro; refine And.intro (fun wc hc => ?_) ?_; (· (simp only [argsOf, anyAt, ↓reduceIte, Nat.reduceEqDiff, Array.getD_eq_getD_getElem?, List.getElem?_toArray, List.getElem?_cons_succ, List.getElem?_cons_zero, Option.getD_some]; with_reducible exact (HE5 _ hc).out)); simp only [Act.put, List.setIfInBounds_toArray, List.set_cons_succ, List.set_cons_zero]))
        refine AWq.done rfl rfl rfl (fun w5 x5 => ?_)
        simp only [closeAny, Act.put, List.setIfInBounds_toArray, List.set_cons_succ, List.set_cons_zero]
        intro _ _ _ _
        go_wp2_with fail
        go_ret
        exact ⟨rfl, HE0.out.trans x5⟩
end Go.Proofs.YtgkdiknmjgpgmaaGreatDoor
