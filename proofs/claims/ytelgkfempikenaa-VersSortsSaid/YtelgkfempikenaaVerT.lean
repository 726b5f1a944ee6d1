/-
  The walk of the law VersSorts.
-/
import Derived.Test.YtelgkfempikenaaVersE
import Derived.Test.YtelgkfempikenaaVerS
namespace Go.Proofs.Ytelgkfempikenaa
set_option linter.unusedSimpArgs false
set_option linter.unusedVariables false
open Go.RowKit


set_option maxRecDepth 100000 in
set_option maxHeartbeats 2000000 in
theorem sorts_walk (l : List Ver) (x y : Ver) (v : Value) (w : World) (hs : Sl w 2 v (l.map Ver.cells)) : Calls Try.prog 6 #[v, x.val, y.val] w (Ret (.bool true) w) := by
  have hs0 := hs
  obtain ⟨A, c, rfl, h1, h2, h3⟩ := sl_get hs
  clear hs
  unfold maxLen at h2
  unfold Ver.val
  by_cases hgt : 60 < l.length
  · have d0 : decide ((60 : Int) < (l.length : Int)) = true := by simp; omega
    obtain ⟨b, o, rfl, lb, hcell⟩ := h3 (by omega)
    have hs1 := sl_take (m := 60) hs0 (by omega)
    rw [← List.map_take] at hs1
    have hL : (l.take 60).length = 60 := by simp; omega
    have hcell' : ∀ k (h : k < (l.take 60).length) j u, ((l.take 60)[k]).cells[j]? = some u → w.cell? ⟨b, o + k * 2 + j, none⟩ = some u := fun k h j u hu => by
      rw [List.getElem_take] at hu
      exact hcell k (by rw [List.length_take] at h; omega) j u hu
    clear hs0 hcell h3
    go_enter Try.func6, Try.ntmps6
    go_wp2_with fail
    clear d0 h1 hgt
    generalize l.take 60 = L at hs1 hcell' hL
    have hs2 := hs1
    have h3 : 0 < L.length → ∃ b' o', some (Addr.mk b o none) = some ⟨b', o', none⟩ ∧ b' < w.heap.size ∧ ∀ k (h : k < L.length) j u, (L[k]).cells[j]? = some u → w.cell? ⟨b', o' + k * 2 + j, none⟩ = some u := fun _ => ⟨b, o, rfl, lb, hcell'⟩
    clear hcell' hs1
    have HE0 := hid (((Ext.refl w).alloc' (.cells #[.int .i64 x.by_, .int .i64 x.n] 24)).alloc' (.cells #[.int .i64 y.by_, .int .i64 y.n] 24))
    have hA1 := (Blk.new w 24 #[.int .i64 x.by_, .int .i64 x.n]).alloc (.cells #[.int .i64 y.by_, .int .i64 y.n] 24)
    have hB1 := Blk.new (w.alloc (.cells #[.int .i64 x.by_, .int .i64 x.n] 24)) 24 #[.int .i64 y.by_, .int .i64 y.n]
    rw [show (w.alloc (.cells #[.int .i64 x.by_, .int .i64 x.n] 24)).heap.size = w.heap.size + 1 by simp] at hB1
    generalize (w.alloc (.cells #[.int .i64 x.by_, .int .i64 x.n] 24)).alloc (.cells #[.int .i64 y.by_, .int .i64 y.n] 24) = w0 at HE0 hA1 hB1 ⊢
    have a0 := hA1.cell (i := 0) (v := .int .i64 x.by_) rfl
    have a1 := hA1.cell (i := 1) (v := .int .i64 x.n) rfl
    have b0 := hB1.cell (i := 0) (v := .int .i64 y.by_) rfl
    have b1 := hB1.cell (i := 1) (v := .int .i64 y.n) rfl
    have la0 := hA1.lt
    have lb0 := hB1.lt
    clear hA1 hB1
    go_loopw [7, 8] (fun v i wr => ∃ k : Nat, k ≤ 60 ∧ i = .int .i64 k ∧ Ext w0 wr ∧ RowAt Ver.cells 2 (setL Ver.lt (List.take k L)) v wr) (fun _ i _ => 60 - (intOf i).toNat)
    case atStart => exact ⟨0, by omega, rfl, Ext.refl _, RowAt.nil _⟩
    case round =>
      obtain ⟨k, hk, rfl, hE, hR⟩ := hrel
      by_cases hlt : k < 60
      · have hkl : k < (L).length := by omega
        obtain ⟨b, o, hA, lb, hcell⟩ := h3 (by omega)
        cases hA
        have c0 := (HE0.out.trans hE).cell (hcell k hkl 0 _ rfl)
        have c1 := (HE0.out.trans hE).cell (hcell k hkl 1 _ rfl)
        rw [Nat.add_zero] at c0
        have HP := hid (rput_c wr u7 (setL Ver.lt (List.take k L)) (L)[k] hR (by have := setL_length Ver.strict (List.take k L); rw [List.length_take] at this; omega))
        have HS := hid (setL_take (lt := Ver.lt) L k hkl)
        have HE := hid hE
        clear hE hR hcell h3
        generalize (L)[k] = z at c0 c1 HP HS
        unfold Ver.val at HP
        go_wp2_with (go_at_call 16; refine (HP.out).mono ?_; rintro e w' ⟨v', rfl, hv', hx⟩; have HV := hid hv'; have HX := hid hx; clear hv' hx)
        go_roundw
        case rel => exact ⟨k + 1, by omega, by go_num, HE.out.trans HX.out, by rw [HS.out]; exact HV.out⟩
        case measure => simp [intOf]; omega
      · obtain rfl : k = 60 := by omega
        have hlen : List.take 60 L = L := List.take_of_length_le (by omega)
        rw [hlen] at hR
        have HR := hid hR
        have HE := hid hE
        have y0 := hE.cell a0
        have y1 := hE.cell a1
        have y2 := hE.cell b0
        have y3 := hE.cell b1
        have HSl := hid (hs2.ext (HE0.out.trans hE))
        have HSort := fun W (he : Ext wr W) => hid (vsort_c W _ L (HSl.out.ext he) (by omega))
        have HSame := fun W (u : Value) (he : Ext wr W) (h : RowAt Ver.cells 2 (setL Ver.lt L) u W) => hid (rsame_c W u u7 (setL Ver.lt L) h.1 (HR.out.ext he).1)
        have HB1 := fun W => hid (vbefore_c x y W)
        have HB2 := fun W => hid (rbefore_c x y W)
        have la := Nat.lt_of_lt_of_le la0 hE.size
        have lb := Nat.lt_of_lt_of_le lb0 hE.size
        unfold Ver.val at HB1 HB2
        clear hE hR h3 hs2 hlen
        go_wp2_with fail
        refine wp_region_any_order (by kernel_rfl) (by kernel_rfl) (by kernel_rfl) ?_
        repeat (first
          | (refine AWq.val rfl rfl rfl rfl (fun K hK => ?_); go_big_quiet_op; refine hK _ ?_; clear hK K)
          | (refine AWq.skip rfl rfl rfl ?_; simp only [Act.put, List.setIfInBounds_toArray, List.set_cons_succ, List.set_cons_zero])
          | (refine AWq.call rfl Try.func10 (by kernel_rfl) (by kernel_rfl) rfl rfl rfl ?_; apply Exists.intro; refine And.intro (fun wc hc => ?_) ?_; (· (simp only [argsOf, anyAt, ↓reduceIte, Nat.reduceEqDiff, Array.getD_eq_getD_getElem?, List.getElem?_toArray, List.getElem?_cons_succ, List.getElem?_cons_zero, Option.getD_some]; with_reducible exact awake_c _)); simp only [Act.put, List.setIfInBounds_toArray, List.set_cons_succ, List.set_cons_zero])
          | (refine AWq.callQ (RowAt Ver.cells 2 (setL Ver.lt L)) (RowAt.steady _ _ _) rfl Try.func18 (by kernel_rfl) (by kernel_rfl) rfl rfl rfl (fun wc hc => ?_) ?_; (· (simp only [argsOf, anyAt, ↓reduceIte, Nat.reduceEqDiff, Array.getD_eq_getD_getElem?, List.getElem?_toArray, List.getElem?_cons_succ, List.getElem?_cons_zero, Option.getD_some]; exact (HSort _ hc).out)))
          | ((refine AWq.call rfl Try.func17 (by kernel_rfl) (by kernel_rfl) rfl rfl rfl ?_; apply Exists.intro; refine And.intro (fun wc hc => ?_) ?_; (· (simp only [argsOf, anyAt, ↓reduceIte, Nat.reduceEqDiff, Array.getD_eq_getD_getElem?, List.getElem?_toArray, List.getElem?_cons_succ, List.getElem?_cons_zero, Option.getD_some]; intro y hy; exact (HSame _ y hc hy).out)); simp only [Act.put, List.setIfInBounds_toArray, List.set_cons_succ, List.set_cons_zero]))
          | (refine AWq.call rfl Try.func19 (by kernel_rfl) (by kernel_rfl) rfl rfl rfl ?_; apply Exists.intro; refine And.intro (fun wc hc => ?_) ?_; (· (simp only [argsOf, anyAt, ↓reduceIte, Nat.reduceEqDiff, Array.getD_eq_getD_getElem?, List.getElem?_toArray, List.getElem?_cons_succ, List.getElem?_cons_zero, Option.getD_some]; with_reducible exact (HB1 _).out)); simp only [Act.put, List.setIfInBounds_toArray, List.set_cons_succ, List.set_cons_zero])
          | (refine AWq.call rfl Try.func20 (by kernel_rfl) (by kernel_rfl) rfl rfl rfl ?_; apply Exists.intro; refine And.intro (fun wc hc => ?_) ?_; (· (simp only [argsOf, anyAt, ↓reduceIte, Nat.reduceEqDiff, Array.getD_eq_getD_getElem?, List.getElem?_toArray, List.getElem?_cons_succ, List.getElem?_cons_zero, Option.getD_some]; with_reducible exact (HB2 _).out)); simp only [Act.put, List.setIfInBounds_toArray, List.set_cons_succ, List.set_cons_zero]))
        refine AWq.done rfl rfl rfl (fun w2 z2 => ?_)
        simp only [closeAny, Act.put, List.setIfInBounds_toArray, List.set_cons_succ, List.set_cons_zero]
        intro _ _
        go_wp2_with fail
        go_ret
        exact ⟨rfl, HE0.out.trans (HE.out.trans z2)⟩
  · have d0 : decide ((60 : Int) < (l.length : Int)) = false := by simp; omega
    have hs2 := hs0
    clear hs0
    go_enter Try.func6, Try.ntmps6
    go_wp2_with fail
    clear d0
    have HE0 := hid (((Ext.refl w).alloc' (.cells #[.int .i64 x.by_, .int .i64 x.n] 24)).alloc' (.cells #[.int .i64 y.by_, .int .i64 y.n] 24))
    have hA1 := (Blk.new w 24 #[.int .i64 x.by_, .int .i64 x.n]).alloc (.cells #[.int .i64 y.by_, .int .i64 y.n] 24)
    have hB1 := Blk.new (w.alloc (.cells #[.int .i64 x.by_, .int .i64 x.n] 24)) 24 #[.int .i64 y.by_, .int .i64 y.n]
    rw [show (w.alloc (.cells #[.int .i64 x.by_, .int .i64 x.n] 24)).heap.size = w.heap.size + 1 by simp] at hB1
    generalize (w.alloc (.cells #[.int .i64 x.by_, .int .i64 x.n] 24)).alloc (.cells #[.int .i64 y.by_, .int .i64 y.n] 24) = w0 at HE0 hA1 hB1 ⊢
    have a0 := hA1.cell (i := 0) (v := .int .i64 x.by_) rfl
    have a1 := hA1.cell (i := 1) (v := .int .i64 x.n) rfl
    have b0 := hB1.cell (i := 0) (v := .int .i64 y.by_) rfl
    have b1 := hB1.cell (i := 1) (v := .int .i64 y.n) rfl
    have la0 := hA1.lt
    have lb0 := hB1.lt
    clear hA1 hB1
    go_loopw [7, 8] (fun v i wr => ∃ k : Nat, k ≤ l.length ∧ i = .int .i64 k ∧ Ext w0 wr ∧ RowAt Ver.cells 2 (setL Ver.lt (List.take k l)) v wr) (fun _ i _ => l.length - (intOf i).toNat)
    case atStart => exact ⟨0, by omega, rfl, Ext.refl _, RowAt.nil _⟩
    case round =>
      obtain ⟨k, hk, rfl, hE, hR⟩ := hrel
      by_cases hlt : k < l.length
      · have hkl : k < (l).length := by omega
        obtain ⟨b, o, hA, lb, hcell⟩ := h3 (by omega)
        cases hA
        have c0 := (HE0.out.trans hE).cell (hcell k hkl 0 _ rfl)
        have c1 := (HE0.out.trans hE).cell (hcell k hkl 1 _ rfl)
        rw [Nat.add_zero] at c0
        have HP := hid (rput_c wr u7 (setL Ver.lt (List.take k l)) (l)[k] hR (by have := setL_length Ver.strict (List.take k l); rw [List.length_take] at this; omega))
        have HS := hid (setL_take (lt := Ver.lt) l k hkl)
        have HE := hid hE
        clear hE hR hcell h3
        generalize (l)[k] = z at c0 c1 HP HS
        unfold Ver.val at HP
        go_wp2_with (go_at_call 16; refine (HP.out).mono ?_; rintro e w' ⟨v', rfl, hv', hx⟩; have HV := hid hv'; have HX := hid hx; clear hv' hx)
        go_roundw
        case rel => exact ⟨k + 1, by omega, by go_num, HE.out.trans HX.out, by rw [HS.out]; exact HV.out⟩
        case measure => simp [intOf]; omega
      · obtain rfl : k = l.length := by omega
        have hlen : List.take l.length l = l := List.take_of_length_le (by omega)
        rw [hlen] at hR
        have HR := hid hR
        have HE := hid hE
        have y0 := hE.cell a0
        have y1 := hE.cell a1
        have y2 := hE.cell b0
        have y3 := hE.cell b1
        have HSl := hid (hs2.ext (HE0.out.trans hE))
        have HSort := fun W (he : Ext wr W) => hid (vsort_c W _ l (HSl.out.ext he) (by omega))
        have HSame := fun W (u : Value) (he : Ext wr W) (h : RowAt Ver.cells 2 (setL Ver.lt l) u W) => hid (rsame_c W u u7 (setL Ver.lt l) h.1 (HR.out.ext he).1)
        have HB1 := fun W => hid (vbefore_c x y W)
        have HB2 := fun W => hid (rbefore_c x y W)
        have la := Nat.lt_of_lt_of_le la0 hE.size
        have lb := Nat.lt_of_lt_of_le lb0 hE.size
        unfold Ver.val at HB1 HB2
        clear hE hR h3 hs2 hlen
        go_wp2_with fail
        refine wp_region_any_order (by kernel_rfl) (by kernel_rfl) (by kernel_rfl) ?_
        repeat (first
          | (refine AWq.val rfl rfl rfl rfl (fun K hK => ?_); go_big_quiet_op; refine hK _ ?_; clear hK K)
          | (refine AWq.skip rfl rfl rfl ?_; simp only [Act.put, List.setIfInBounds_toArray, List.set_cons_succ, List.set_cons_zero])
          | (refine AWq.call rfl Try.func10 (by kernel_rfl) (by kernel_rfl) rfl rfl rfl ?_; apply Exists.intro; refine And.intro (fun wc hc => ?_) ?_; (· (simp only [argsOf, anyAt, ↓reduceIte, Nat.reduceEqDiff, Array.getD_eq_getD_getElem?, List.getElem?_toArray, List.getElem?_cons_succ, List.getElem?_cons_zero, Option.getD_some]; with_reducible exact awake_c _)); simp only [Act.put, List.setIfInBounds_toArray, List.set_cons_succ, List.set_cons_zero])
          | (refine AWq.callQ (RowAt Ver.cells 2 (setL Ver.lt l)) (RowAt.steady _ _ _) rfl Try.func18 (by kernel_rfl) (by kernel_rfl) rfl rfl rfl (fun wc hc => ?_) ?_; (· (simp only [argsOf, anyAt, ↓reduceIte, Nat.reduceEqDiff, Array.getD_eq_getD_getElem?, List.getElem?_toArray, List.getElem?_cons_succ, List.getElem?_cons_zero, Option.getD_some]; exact (HSort _ hc).out)))
          | ((refine AWq.call rfl Try.func17 (by kernel_rfl) (by kernel_rfl) rfl rfl rfl ?_; apply Exists.intro; refine And.intro (fun wc hc => ?_) ?_; (· (simp only [argsOf, anyAt, ↓reduceIte, Nat.reduceEqDiff, Array.getD_eq_getD_getElem?, List.getElem?_toArray, List.getElem?_cons_succ, List.getElem?_cons_zero, Option.getD_some]; intro y hy; exact (HSame _ y hc hy).out)); simp only [Act.put, List.setIfInBounds_toArray, List.set_cons_succ, List.set_cons_zero]))
          | (refine AWq.call rfl Try.func19 (by kernel_rfl) (by kernel_rfl) rfl rfl rfl ?_; apply Exists.intro; refine And.intro (fun wc hc => ?_) ?_; (· (simp only [argsOf, anyAt, ↓reduceIte, Nat.reduceEqDiff, Array.getD_eq_getD_getElem?, List.getElem?_toArray, List.getElem?_cons_succ, List.getElem?_cons_zero, Option.getD_some]; with_reducible exact (HB1 _).out)); simp only [Act.put, List.setIfInBounds_toArray, List.set_cons_succ, List.set_cons_zero])
          | (refine AWq.call rfl Try.func20 (by kernel_rfl) (by kernel_rfl) rfl rfl rfl ?_; apply Exists.intro; refine And.intro (fun wc hc => ?_) ?_; (· (simp only [argsOf, anyAt, ↓reduceIte, Nat.reduceEqDiff, Array.getD_eq_getD_getElem?, List.getElem?_toArray, List.getElem?_cons_succ, List.getElem?_cons_zero, Option.getD_some]; with_reducible exact (HB2 _).out)); simp only [Act.put, List.setIfInBounds_toArray, List.set_cons_succ, List.set_cons_zero]))
        refine AWq.done rfl rfl rfl (fun w2 z2 => ?_)
        simp only [closeAny, Act.put, List.setIfInBounds_toArray, List.set_cons_succ, List.set_cons_zero]
        intro _ _
        go_wp2_with fail
        go_ret
        exact ⟨rfl, HE0.out.trans (HE.out.trans z2)⟩
end Go.Proofs.Ytelgkfempikenaa
