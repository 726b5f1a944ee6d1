/-
  The law RouteWays.
-/
import Derived.Test.YtjnjamhohnnefaaGreatDoorPkM
import Derived.Test.YtjnjamhohnnefaaGreatDoorPkH
namespace Go.Proofs.YtjnjamhohnnefaaGreatDoor
set_option linter.unusedSimpArgs false
set_option linter.unusedVariables false
open Go.RowKit Go.Sort

set_option maxRecDepth 100000 in
set_option maxHeartbeats 16000000 in
theorem ways_dark (w : World) (m : Int) (hm : w.cell? ⟨0, 0, none⟩ = some (.int .i64 m)) (up : List Int) (Fl : List (List ClauseI)) (A AF : Option Addr) (c cF : Nat) (a b : Int) (hu : Sl w 1 (.slice A up.length c) (Ints up)) (hF : FsAt w AF cF Fl) (hlt : lightT up Fl = false) : Calls Tryz.prog 6 #[.agg #[.slice A up.length c, .slice AF Fl.length cF], .int .i64 a, .int .i64 b] w (Ret (.bool true) w) := by
  have HE0 := hid (Ext.alloc w (.cells #[.slice A up.length c, .slice AF Fl.length cF] 25))
  have HB0 := hid (Blk.new w 25 #[.slice A up.length c, .slice AF Fl.length cF])
  have HAw := fun W (hW : Ext w W) => hid (awake39_c W m (hW.cell hm))
  have HLt := fun W (hW : Ext w W) => hid (light28_c W up Fl A AF c cF (hu.ext hW) (hF.ext hW))
  rw [hlt] at HLt
  clear hm hu hF hlt
  go_enter Tryz.func6, Tryz.ntmps6
  go_wp2_with fail
  generalize w.alloc (.cells #[.slice A up.length c, .slice AF Fl.length cF] 25) = w0 at HE0 HB0 ⊢
  generalize w.heap.size = g at HB0 ⊢
  have a0 := HB0.out.cell (i := 0) (v := .slice A up.length c) rfl
  have b0 := HB0.out.cell (i := 1) (v := .slice AF Fl.length cF) rfl
  have l0 := HB0.out.lt
  have X0 := hid HE0.out
  refine ((HLt _ X0.out).out).mono ?_
  rintro e w1 ⟨rfl, x1⟩
  have X1 := hid (X0.out.trans x1)
  have HB1 := hid (HB0.out.ext x1)
  have a1 := HB1.out.cell (i := 0) (v := .slice A up.length c) rfl
  have b1 := HB1.out.cell (i := 1) (v := .slice AF Fl.length cF) rfl
  have l1 := HB1.out.lt
  clear x1 HB0 a0 b0 l0
  clear HLt
  go_wp2_with fail
  refine ((HAw _ X1.out).out).mono ?_
  rintro e w2 ⟨rfl, x2⟩
  have X2 := hid (X1.out.trans x2)
  clear x2
  go_wp2_with fail
  go_ret
  exact ⟨rfl, X2.out⟩
set_option maxRecDepth 100000 in
set_option maxHeartbeats 16000000 in
theorem ways_none (w : World) (m : Int) (hm : w.cell? ⟨0, 0, none⟩ = some (.int .i64 m)) (up : List Int) (Fl : List (List ClauseI)) (A AF : Option Addr) (c cF : Nat) (a b : Int) (hu : Sl w 1 (.slice A up.length c) (Ints up)) (hF : FsAt w AF cF Fl) (hlt : lightT up Fl = true) (hr : rightT up Fl a b = false) : Calls Tryz.prog 6 #[.agg #[.slice A up.length c, .slice AF Fl.length cF], .int .i64 a, .int .i64 b] w (Ret (.bool true) w) := by
  have HE0 := hid (Ext.alloc w (.cells #[.slice A up.length c, .slice AF Fl.length cF] 25))
  have HB0 := hid (Blk.new w 25 #[.slice A up.length c, .slice AF Fl.length cF])
  have HAw := fun W (hW : Ext w W) => hid (awake39_c W m (hW.cell hm))
  have HLt := fun W (hW : Ext w W) => hid (light28_c W up Fl A AF c cF (hu.ext hW) (hF.ext hW))
  have ht : TreeAt w up Fl A AF c cF := lightT_tree hlt m hm hu hF
  rw [hlt] at HLt
  have HRt := fun W (hW : Ext w W) => hid (right39_c W up Fl A AF c cF a b (ht.ext hW))
  have HR2 := fun W (hW : Ext w W) => hid (right39_c W up Fl A AF c cF a a (ht.ext hW))
  have HWy := fun W (hW : Ext w W) => hid (way39_c W up Fl A AF c cF a b (ht.ext hW))
  have HMe := fun W (hW : Ext w W) => hid (meet39_c W up Fl A AF c cF a b (ht.ext hW))
  have HUp := fun W (hW : Ext w W) => hid (up39_c W up Fl A AF c cF a (ht.ext hW))
  obtain ⟨h1, h2⟩ := ht.cap
  have hl := ht.l
  unfold maxLen at h2
  have em := meetT_none hr
  have ew : wayTT up Fl a b = [] := if_pos em
  rw [hr] at HRt
  rw [em] at HMe
  rw [ew] at HWy
  have HU0 : Hid (rightT up Fl a a = false → upT up Fl a = []) := fun h => by
    refine upT_none fun hh => ?_
    have := rightT_iff.2 ⟨hh.1, hh.2, hh.2⟩
    rw [h] at this
    cases this
  clear hm hu hF hlt ht em ew hr
  generalize rightT up Fl a a = raa at HR2 HU0
  generalize upT up Fl a = La at HUp HU0
  go_enter Tryz.func6, Tryz.ntmps6
  go_wp2_with fail
  generalize w.alloc (.cells #[.slice A up.length c, .slice AF Fl.length cF] 25) = w0 at HE0 HB0 ⊢
  generalize w.heap.size = g at HB0 ⊢
  have a0 := HB0.out.cell (i := 0) (v := .slice A up.length c) rfl
  have b0 := HB0.out.cell (i := 1) (v := .slice AF Fl.length cF) rfl
  have l0 := HB0.out.lt
  have X0 := hid HE0.out
  refine ((HLt _ X0.out).out).mono ?_
  rintro e w1 ⟨rfl, x1⟩
  have X1 := hid (X0.out.trans x1)
  have HB1 := hid (HB0.out.ext x1)
  have a1 := HB1.out.cell (i := 0) (v := .slice A up.length c) rfl
  have b1 := HB1.out.cell (i := 1) (v := .slice AF Fl.length cF) rfl
  have l1 := HB1.out.lt
  clear x1 HB0 a0 b0 l0
  clear HLt
  go_wp2_with fail
  refine ((HRt _ X1.out).out).mono ?_
  rintro e w2 ⟨rfl, x2⟩
  have X2 := hid (X1.out.trans x2)
  have HB2 := hid (HB1.out.ext x2)
  have a2 := HB2.out.cell (i := 0) (v := .slice A up.length c) rfl
  have b2 := HB2.out.cell (i := 1) (v := .slice AF Fl.length cF) rfl
  have l2 := HB2.out.lt
  clear x2 HB1 a1 b1 l1
  clear HRt
  go_wp2_with fail
  refine ((HAw _ X2.out).out).mono ?_
  rintro e w3 ⟨rfl, x3⟩
  have X3 := hid (X2.out.trans x3)
  have HB3 := hid (HB2.out.ext x3)
  have a3 := HB3.out.cell (i := 0) (v := .slice A up.length c) rfl
  have b3 := HB3.out.cell (i := 1) (v := .slice AF Fl.length cF) rfl
  have l3 := HB3.out.lt
  clear x3 HB2 a2 b2 l2
  clear HAw
  go_wp2_with fail
  refine ((HWy _ X3.out).out).mono ?_
  rintro e w4 ⟨v4, rfl, hv4, x4⟩
  obtain ⟨A4, c4, rfl, _⟩ := hv4
  have X4 := hid (X3.out.trans x4)
  have HB4 := hid (HB3.out.ext x4)
  have a4 := HB4.out.cell (i := 0) (v := .slice A up.length c) rfl
  have b4 := HB4.out.cell (i := 1) (v := .slice AF Fl.length cF) rfl
  have l4 := HB4.out.lt
  clear x4 HB3 a3 b3 l3
  clear HWy
  simp only [Ints, List.map_nil, List.length_nil]
  go_wp2_with fail
  refine ((HMe _ X4.out).out).mono ?_
  rintro e w5 ⟨rfl, x5⟩
  have X5 := hid (X4.out.trans x5)
  have HB5 := hid (HB4.out.ext x5)
  have a5 := HB5.out.cell (i := 0) (v := .slice A up.length c) rfl
  have b5 := HB5.out.cell (i := 1) (v := .slice AF Fl.length cF) rfl
  have l5 := HB5.out.lt
  clear x5 HB4 a4 b4 l4
  clear HMe
  go_wp2_with fail
  refine ((HR2 _ X5.out).out).mono ?_
  rintro e w6 ⟨rfl, x6⟩
  have X6 := hid (X5.out.trans x6)
  have HB6 := hid (HB5.out.ext x6)
  have a6 := HB6.out.cell (i := 0) (v := .slice A up.length c) rfl
  have b6 := HB6.out.cell (i := 1) (v := .slice AF Fl.length cF) rfl
  have l6 := HB6.out.lt
  clear x6 HB5 a5 b5 l5
  clear HR2
  cases raa with
  | true =>
    go_wp2_with fail
    go_ret
    exact ⟨rfl, X6.out⟩
  | false =>
    obtain rfl := HU0.out rfl
    go_wp2_with fail
    refine ((HUp _ X6.out).out).mono ?_
    rintro e w7 ⟨v7, rfl, hv7, x7⟩
    obtain rfl := hv7.1 rfl
    have X7 := hid (X6.out.trans x7)
    clear x7 HB6 a6 b6 l6 hv7
    go_wp2_with fail
    go_ret
    exact ⟨rfl, X7.out⟩
set_option maxRecDepth 100000 in
set_option maxHeartbeats 16000000 in
theorem ways_tree (w : World) (m : Int) (hm : w.cell? ⟨0, 0, none⟩ = some (.int .i64 m)) (up : List Int) (Fl : List (List ClauseI)) (A AF : Option Addr) (c cF : Nat) (a b : Int) (hu : Sl w 1 (.slice A up.length c) (Ints up)) (hF : FsAt w AF cF Fl) (hlt : lightT up Fl = true) (hr : rightT up Fl a b = true) : Calls Tryz.prog 6 #[.agg #[.slice A up.length c, .slice AF Fl.length cF], .int .i64 a, .int .i64 b] w (Ret (.bool true) w) := by
  have HE0 := hid (Ext.alloc w (.cells #[.slice A up.length c, .slice AF Fl.length cF] 25))
  have HB0 := hid (Blk.new w 25 #[.slice A up.length c, .slice AF Fl.length cF])
  have HAw := fun W (hW : Ext w W) => hid (awake39_c W m (hW.cell hm))
  have HLt := fun W (hW : Ext w W) => hid (light28_c W up Fl A AF c cF (hu.ext hW) (hF.ext hW))
  have ht : TreeAt w up Fl A AF c cF := lightT_tree hlt m hm hu hF
  rw [hlt] at HLt
  obtain ⟨ka, kb, z, p, q, ha, hb, ea, eb, em, hme, hmk, _, _⟩ := meet_at hr
  have HRt := fun W (hW : Ext w W) => hid (right39_c W up Fl A AF c cF a b (ht.ext hW))
  have HWy := fun W (hW : Ext w W) => hid (way39_c W up Fl A AF c cF a b (ht.ext hW))
  have HMe := fun W (hW : Ext w W) => hid (meet39_c W up Fl A AF c cF a b (ht.ext hW))
  have HUp := fun W (hW : Ext w W) => hid (up39_c W up Fl A AF c cF a (ht.ext hW))
  have HSu := fun W (hW : Ext w W) => hid (rup39_c W (.slice A up.length c) up a (ht.u.ext hW) ht.l)
  have HSm := fun W (hW : Ext w W) => hid (rmeet39_c W up A c a b (ht.u.ext hW) ht.l ⟨ka, ha⟩ ⟨kb, hb⟩)
  have HSw := fun W (hW : Ext w W) => hid (rway39_c W up A c a b z ka kb p q (ht.u.ext hW) ht.l ha hb hme hmk)
  have h0 := (rightT_iff.1 hr).1
  rw [refUp_upL (check_zero h0).2.1] at HSu
  obtain ⟨h1, h2⟩ := ht.cap
  have hl := ht.l
  unfold maxLen at h2
  have ew : wayTT up Fl a b = wayT (upL up a) (upL up b) := by
    unfold wayTT
    rw [em, if_neg (by have := hme.one; omega), ea, eb]
  have hla : (upL up a).length ≤ 1000 := by
    have h64 := (check_zero h0).1
    have := upL_le up a
    omega
  have hlw : (wayT (upL up a) (upL up b)).length ≤ 1000 := by
    have h64 := (check_zero h0).1
    rw [hme.w]
    have := upL_le up b
    have := upL_le up a
    simp [List.length_take]
    omega
  rw [hr] at HRt
  rw [em] at HMe
  rw [ew] at HWy
  rw [ea] at HUp
  rw [hmk] at HSm
  clear hm hu hF hlt ht em ew hr ha hb ea eb hme hmk h0
  generalize wayT (upL up a) (upL up b) = lw at HWy HSw hlw
  generalize upL up a = La at HUp HSu hla
  go_enter Tryz.func6, Tryz.ntmps6
  go_wp2_with fail
  generalize w.alloc (.cells #[.slice A up.length c, .slice AF Fl.length cF] 25) = w0 at HE0 HB0 ⊢
  generalize w.heap.size = g at HB0 ⊢
  have a0 := HB0.out.cell (i := 0) (v := .slice A up.length c) rfl
  have b0 := HB0.out.cell (i := 1) (v := .slice AF Fl.length cF) rfl
  have l0 := HB0.out.lt
  have X0 := hid HE0.out
  refine ((HLt _ X0.out).out).mono ?_
  rintro e w1 ⟨rfl, x1⟩
  have X1 := hid (X0.out.trans x1)
  have HB1 := hid (HB0.out.ext x1)
  have a1 := HB1.out.cell (i := 0) (v := .slice A up.length c) rfl
  have b1 := HB1.out.cell (i := 1) (v := .slice AF Fl.length cF) rfl
  have l1 := HB1.out.lt
  clear x1 HB0 a0 b0 l0
  clear HLt
  go_wp2_with fail
  refine ((HRt _ X1.out).out).mono ?_
  rintro e w2 ⟨rfl, x2⟩
  have X2 := hid (X1.out.trans x2)
  have HB2 := hid (HB1.out.ext x2)
  have a2 := HB2.out.cell (i := 0) (v := .slice A up.length c) rfl
  have b2 := HB2.out.cell (i := 1) (v := .slice AF Fl.length cF) rfl
  have l2 := HB2.out.lt
  clear x2 HB1 a1 b1 l1
  clear HRt
  go_wp2_with fail
  refine wp_region_any_order (by kernel_rfl) (by kernel_rfl) (by kernel_rfl) ?_
  repeat (first
    | (refine AWq.val rfl rfl rfl rfl (fun K hK => ?_); go_big_quiet_op; refine hK _ ?_; clear hK K)
    | (refine AWq.skip rfl rfl rfl ?_; simp only [Act.put, List.setIfInBounds_toArray, List.set_cons_succ, List.set_cons_zero])
    | (refine AWq.call rfl Tryz.func28 (by kernel_rfl) (by kernel_rfl) rfl rfl rfl ?_; apply Exists.intro; refine And.intro (fun wc hc => ?_) ?_; (· (simp only [argsOf, anyAt, ↓reduceIte, Nat.reduceEqDiff, Array.getD_eq_getD_getElem?, List.getElem?_toArray, List.getElem?_cons_succ, List.getElem?_cons_zero, Option.getD_some]; with_reducible exact (HAw _ (X2.out.trans hc)).out)); simp only [Act.put, List.setIfInBounds_toArray, List.set_cons_succ, List.set_cons_zero])
    | (refine AWq.call rfl Tryz.func31 (by kernel_rfl) (by kernel_rfl) rfl rfl rfl ?_; apply Exists.intro; refine And.intro (fun wc hc => ?_) ?_; (· (simp only [argsOf, anyAt, ↓reduceIte, Nat.reduceEqDiff, Array.getD_eq_getD_getElem?, List.getElem?_toArray, List.getElem?_cons_succ, List.getElem?_cons_zero, Option.getD_some]; with_reducible exact (HMe _ (X2.out.trans hc)).out)); simp only [Act.put, List.setIfInBounds_toArray, List.set_cons_succ, List.set_cons_zero])
    | (refine AWq.call rfl Tryz.func34 (by kernel_rfl) (by kernel_rfl) rfl rfl rfl ?_; apply Exists.intro; refine And.intro (fun wc hc => ?_) ?_; (· (simp only [argsOf, anyAt, ↓reduceIte, Nat.reduceEqDiff, Array.getD_eq_getD_getElem?, List.getElem?_toArray, List.getElem?_cons_succ, List.getElem?_cons_zero, Option.getD_some]; with_reducible exact (HSm _ (X2.out.trans hc)).out)); simp only [Act.put, List.setIfInBounds_toArray, List.set_cons_succ, List.set_cons_zero])
    | (refine AWq.callQ ((fun v w' => Sl w' 1 v (Ints La))) ((fun v _ _ he h => h.ext he)) rfl Tryz.func32 (by kernel_rfl) (by kernel_rfl) rfl rfl rfl (fun wc hc => ?_) ?_; (· (simp only [argsOf, anyAt, ↓reduceIte, Nat.reduceEqDiff, Array.getD_eq_getD_getElem?, List.getElem?_toArray, List.getElem?_cons_succ, List.getElem?_cons_zero, Option.getD_some]; exact ((HUp _ (X2.out.trans hc)).out).mono fun e w' ⟨v, h1, h2, h3⟩ => ⟨v, h1, h2.sl, h3⟩)))
    | (refine AWq.callQ ((fun v w' => Sl w' 1 v (Ints La))) ((fun v _ _ he h => h.ext he)) rfl Tryz.func33 (by kernel_rfl) (by kernel_rfl) rfl rfl rfl (fun wc hc => ?_) ?_; (· (simp only [argsOf, anyAt, ↓reduceIte, Nat.reduceEqDiff, Array.getD_eq_getD_getElem?, List.getElem?_toArray, List.getElem?_cons_succ, List.getElem?_cons_zero, Option.getD_some]; exact ((HSu _ (X2.out.trans hc)).out).mono fun e w' ⟨v, h1, h2, h3⟩ => ⟨v, h1, h2.sl, h3⟩)))
    | (refine AWq.callQ ((fun v w' => Sl w' 1 v (Ints lw))) ((fun v _ _ he h => h.ext he)) rfl Tryz.func30 (by kernel_rfl) (by kernel_rfl) rfl rfl rfl (fun wc hc => ?_) ?_; (· (simp only [argsOf, anyAt, ↓reduceIte, Nat.reduceEqDiff, Array.getD_eq_getD_getElem?, List.getElem?_toArray, List.getElem?_cons_succ, List.getElem?_cons_zero, Option.getD_some]; exact (HWy _ (X2.out.trans hc)).out)))
    | (refine AWq.callQ ((fun v w' => Sl w' 1 v (Ints lw))) ((fun v _ _ he h => h.ext he)) rfl Tryz.func35 (by kernel_rfl) (by kernel_rfl) rfl rfl rfl (fun wc hc => ?_) ?_; (· (simp only [argsOf, anyAt, ↓reduceIte, Nat.reduceEqDiff, Array.getD_eq_getD_getElem?, List.getElem?_toArray, List.getElem?_cons_succ, List.getElem?_cons_zero, Option.getD_some]; exact (HSw _ (X2.out.trans hc)).out)))
    | (refine AWq.call rfl Tryz.func24 (by kernel_rfl) (by kernel_rfl) rfl rfl rfl ?_; apply Exists.intro; refine And.intro (fun wc hc => ?_) ?_; (· (simp only [argsOf, anyAt, ↓reduceIte, Nat.reduceEqDiff, Array.getD_eq_getD_getElem?, List.getElem?_toArray, List.getElem?_cons_succ, List.getElem?_cons_zero, Option.getD_some]; intro y hy u hu; first | (exact rints_c _ _ _ La hu hy (by omega)) | (exact rints_c _ _ _ La hy hu (by omega)) | (exact rints_c _ _ _ lw hu hy (by omega)) | (exact rints_c _ _ _ lw hy hu (by omega)))); simp only [Act.put, List.setIfInBounds_toArray, List.set_cons_succ, List.set_cons_zero]))
  refine AWq.done rfl rfl rfl (fun w3 x3 => ?_)
  simp only [closeAny, Act.put, List.setIfInBounds_toArray, List.set_cons_succ, List.set_cons_zero]
  intro _ _ _ _ _ _ _ _
  go_wp2_with fail
  go_ret
  exact ⟨rfl, X2.out.trans x3⟩
end Go.Proofs.YtjnjamhohnnefaaGreatDoor
