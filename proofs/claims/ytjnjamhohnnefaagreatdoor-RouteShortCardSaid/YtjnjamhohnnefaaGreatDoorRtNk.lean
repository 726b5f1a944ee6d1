/-
  The law RouteShort.
-/
import Derived.Test.YtjnjamhohnnefaaGreatDoorPkM
import Derived.Test.YtjnjamhohnnefaaGreatDoorPkH
namespace Go.Proofs.YtjnjamhohnnefaaGreatDoor
set_option linter.unusedSimpArgs false
set_option linter.unusedVariables false
open Go.RowKit Go.Sort

/-- Each two that follow one another. -/
def ChainL (R : Int → Int → Prop) (l : List Int) : Prop := ∀ i x y, l[i]? = some x → l[i + 1]? = some y → R x y
theorem ChainL.take {R : Int → Int → Prop} {l : List Int} (h : ChainL R l) (k : Nat) : ChainL R (l.take k) := fun i x y hx hy => by
  rw [List.getElem?_take] at hx hy
  by_cases h1 : i + 1 < k
  · rw [if_pos (by omega)] at hx
    rw [if_pos h1] at hy
    exact h i x y hx hy
  · rw [if_neg h1] at hy; cases hy
theorem ChainL.rev {R : Int → Int → Prop} {l : List Int} (h : ChainL R l) (hs : ∀ x y, R x y → R y x) : ChainL R l.reverse := fun i x y hx hy => by
  have hi : i + 1 < l.length := by
    have := (List.getElem?_eq_some_iff.1 hy).1
    simpa using this
  rw [List.getElem?_reverse (by omega)] at hx
  rw [List.getElem?_reverse hi] at hy
  refine hs _ _ (h (l.length - 1 - (i + 1)) y x hy ?_)
  rw [show l.length - 1 - (i + 1) + 1 = l.length - 1 - i by omega]
  exact hx
theorem ChainL.join {R : Int → Int → Prop} {P Q : List Int} {m : Int} (h1 : ChainL R (P ++ [m])) (h2 : ChainL R (m :: Q)) : ChainL R (P ++ m :: Q) := fun i x y hx hy => by
  have e : ∀ j, j ≤ P.length → (P ++ m :: Q)[j]? = (P ++ [m])[j]? := fun j hj => by
    by_cases h : j < P.length
    · rw [List.getElem?_append_left h, List.getElem?_append_left h]
    · have : j = P.length := by omega
      subst this
      rw [List.getElem?_append_right (Nat.le_refl _), List.getElem?_append_right (Nat.le_refl _), Nat.sub_self]; rfl
  by_cases h : i + 1 ≤ P.length
  · rw [e _ (by omega)] at hx
    rw [e _ h] at hy
    exact h1 i x y hx hy
  · rw [List.getElem?_append_right (by omega)] at hx hy
    rw [show i + 1 - P.length = i - P.length + 1 by omega] at hy
    exact h2 _ x y hx hy
/-- One of two is above the other one. -/
def Lk (up : List Int) (x y : Int) : Prop := (1 ≤ x ∧ x ≤ up.length) ∧ (1 ≤ y ∧ y ≤ up.length) ∧ (upAt up x = y ∨ upAt up y = x)
theorem Lk.symm {up : List Int} (x y : Int) (h : Lk up x y) : Lk up y x := ⟨h.2.1, h.1, h.2.2.symm⟩
theorem upL_chain {up : List Int} {r : Int} {n : Nat} (h : Ht up r n) : ChainL (Lk up) (upL up r) := fun i x y hx hy => by
  obtain ⟨i1, e1⟩ := List.getElem?_eq_some_iff.1 hx
  obtain ⟨i2, e2⟩ := List.getElem?_eq_some_iff.1 hy
  have t1 := upL_at h i i1
  have t2 := upL_at h (i + 1) i2
  have hn := (upL_next h i i1).2
  rw [List.getD_eq_getElem?_getD, List.getD_eq_getElem?_getD, hx, hy] at hn
  rw [e1] at t1
  rw [e2] at t2
  exact ⟨t1.in, t2.in, .inl hn⟩
theorem take_at {l : List Int} {p : Nat} {m : Int} (h : l[p]? = some m) : l.take (p + 1) = l.take p ++ [m] := by
  obtain ⟨hp, he⟩ := List.getElem?_eq_some_iff.1 h
  rw [List.take_succ_eq_append_getElem hp, he]
theorem way_chain {up : List Int} {a b m : Int} {ka kb p q : Nat} (ha : Ht up a ka) (hb : Ht up b kb) (h : MeetAt up (upL up a) (upL up b) m p q) : ChainL (Lk up) (wayT (upL up a) (upL up b)) := by
  rw [h.w]
  refine ChainL.join ?_ ?_
  · rw [← take_at h.a]
    exact (upL_chain ha).take _
  · have e : m :: ((upL up b).take q).reverse = ((upL up b).take (q + 1)).reverse := by rw [take_at h.b, List.reverse_append]; rfl
    rw [e]
    exact ((upL_chain hb).take _).rev Lk.symm
theorem head_at {l X : List Int} {q : Nat} {m b : Int} (h : l[q]? = some m) (h0 : l[0]? = some b) : (l.take q ++ m :: X)[0]? = some b := by
  cases q with
  | zero =>
    rw [h] at h0
    rw [List.take_zero, List.nil_append]
    exact h0
  | succ q =>
    have hl := (List.getElem?_eq_some_iff.1 h).1
    rw [List.getElem?_append_left (by rw [List.length_take]; omega), List.getElem?_take, if_pos (by omega)]
    exact h0
theorem link_yes {up : List Int} {Fl : List (List ClauseI)} {x y : Int} (h0 : checkT up Fl = 0) (h : Lk up x y) : linkT up Fl x y = true := by
  unfold linkT
  rw [h0, inT_iff.2 h.1, inT_iff.2 h.2.1]
  rcases h.2.2 with e | e <;> simp [e]
set_option maxRecDepth 100000 in
set_option maxHeartbeats 16000000 in
theorem short_dark (w : World) (m : Int) (hm : w.cell? ⟨0, 0, none⟩ = some (.int .i64 m)) (up : List Int) (Fl : List (List ClauseI)) (A AF : Option Addr) (c cF : Nat) (a b : Int) (hu : Sl w 1 (.slice A up.length c) (Ints up)) (hF : FsAt w AF cF Fl) (hlt : lightT up Fl = false) : Calls Tryz.prog 8 #[.agg #[.slice A up.length c, .slice AF Fl.length cF], .int .i64 a, .int .i64 b] w (Ret (.bool true) w) := by
  have HE0 := hid (Ext.alloc w (.cells #[.slice A up.length c, .slice AF Fl.length cF] 25))
  have HB0 := hid (Blk.new w 25 #[.slice A up.length c, .slice AF Fl.length cF])
  have HAw := fun W (hW : Ext w W) => hid (awake39_c W m (hW.cell hm))
  have HLt := fun W (hW : Ext w W) => hid (light28_c W up Fl A AF c cF (hu.ext hW) (hF.ext hW))
  rw [hlt] at HLt
  clear hm hu hF hlt
  go_enter Tryz.func8, Tryz.ntmps8
  go_wp2_with fail
  generalize w.alloc (.cells #[.slice A up.length c, .slice AF Fl.length cF] 25) = w0 at HE0 HB0 ⊢
  generalize w.heap.size = g at HB0 ⊢
  have a0 := HB0.out.cell (i := 0) (v := .slice A up.length c) rfl
  have b0 := HB0.out.cell (i := 1) (v := .slice AF Fl.length cF) rfl
  have l0 := HB0.out.lt
  have X0 := hid HE0.out
  refine ((HLt _ X0.out).out).mono ?_
  rintro e w1 ⟨rfl, x1⟩
  have X1 := hid (X0.out.trans x1)
  have HB1 := hid (HB0.out.ext x1)
  have a1 := HB1.out.cell (i := 0) (v := .slice A up.length c) rfl
  have b1 := HB1.out.cell (i := 1) (v := .slice AF Fl.length cF) rfl
  have l1 := HB1.out.lt
  clear x1 HB0 a0 b0 l0
  clear HLt
  go_wp2_with fail
  refine ((HAw _ X1.out).out).mono ?_
  rintro e w2 ⟨rfl, x2⟩
  have X2 := hid (X1.out.trans x2)
  clear x2
  go_wp2_with fail
  go_ret
  exact ⟨rfl, X2.out⟩
set_option maxRecDepth 100000 in
set_option maxHeartbeats 16000000 in
theorem short_none (w : World) (m : Int) (hm : w.cell? ⟨0, 0, none⟩ = some (.int .i64 m)) (up : List Int) (Fl : List (List ClauseI)) (A AF : Option Addr) (c cF : Nat) (a b : Int) (hu : Sl w 1 (.slice A up.length c) (Ints up)) (hF : FsAt w AF cF Fl) (hlt : lightT up Fl = true) (hr : rightT up Fl a b = false) : Calls Tryz.prog 8 #[.agg #[.slice A up.length c, .slice AF Fl.length cF], .int .i64 a, .int .i64 b] w (Ret (.bool true) w) := by
  have HE0 := hid (Ext.alloc w (.cells #[.slice A up.length c, .slice AF Fl.length cF] 25))
  have HB0 := hid (Blk.new w 25 #[.slice A up.length c, .slice AF Fl.length cF])
  have HAw := fun W (hW : Ext w W) => hid (awake39_c W m (hW.cell hm))
  have HLt := fun W (hW : Ext w W) => hid (light28_c W up Fl A AF c cF (hu.ext hW) (hF.ext hW))
  have ht : TreeAt w up Fl A AF c cF := lightT_tree hlt m hm hu hF
  rw [hlt] at HLt
  have HRt := fun W (hW : Ext w W) => hid (right39_c W up Fl A AF c cF a b (ht.ext hW))
  rw [hr] at HRt
  clear hm hu hF hlt ht hr
  go_enter Tryz.func8, Tryz.ntmps8
  go_wp2_with fail
  generalize w.alloc (.cells #[.slice A up.length c, .slice AF Fl.length cF] 25) = w0 at HE0 HB0 ⊢
  generalize w.heap.size = g at HB0 ⊢
  have a0 := HB0.out.cell (i := 0) (v := .slice A up.length c) rfl
  have b0 := HB0.out.cell (i := 1) (v := .slice AF Fl.length cF) rfl
  have l0 := HB0.out.lt
  have X0 := hid HE0.out
  refine ((HLt _ X0.out).out).mono ?_
  rintro e w1 ⟨rfl, x1⟩
  have X1 := hid (X0.out.trans x1)
  have HB1 := hid (HB0.out.ext x1)
  have a1 := HB1.out.cell (i := 0) (v := .slice A up.length c) rfl
  have b1 := HB1.out.cell (i := 1) (v := .slice AF Fl.length cF) rfl
  have l1 := HB1.out.lt
  clear x1 HB0 a0 b0 l0
  clear HLt
  go_wp2_with fail
  refine ((HRt _ X1.out).out).mono ?_
  rintro e w2 ⟨rfl, x2⟩
  have X2 := hid (X1.out.trans x2)
  have HB2 := hid (HB1.out.ext x2)
  have a2 := HB2.out.cell (i := 0) (v := .slice A up.length c) rfl
  have b2 := HB2.out.cell (i := 1) (v := .slice AF Fl.length cF) rfl
  have l2 := HB2.out.lt
  clear x2 HB1 a1 b1 l1
  clear HRt
  go_wp2_with fail
  refine ((HAw _ X2.out).out).mono ?_
  rintro e w3 ⟨rfl, x3⟩
  have X3 := hid (X2.out.trans x3)
  clear x3
  go_wp2_with fail
  go_ret
  exact ⟨rfl, X3.out⟩
set_option maxRecDepth 100000 in
set_option maxHeartbeats 16000000 in
theorem short_tree (w : World) (m : Int) (hm : w.cell? ⟨0, 0, none⟩ = some (.int .i64 m)) (up : List Int) (Fl : List (List ClauseI)) (A AF : Option Addr) (c cF : Nat) (a b : Int) (hu : Sl w 1 (.slice A up.length c) (Ints up)) (hF : FsAt w AF cF Fl) (hlt : lightT up Fl = true) (hr : rightT up Fl a b = true) : Calls Tryz.prog 8 #[.agg #[.slice A up.length c, .slice AF Fl.length cF], .int .i64 a, .int .i64 b] w (Ret (.bool true) w) := by
  have HE0 := hid (Ext.alloc w (.cells #[.slice A up.length c, .slice AF Fl.length cF] 25))
  have HB0 := hid (Blk.new w 25 #[.slice A up.length c, .slice AF Fl.length cF])
  have HAw := fun W (hW : Ext w W) => hid (awake39_c W m (hW.cell hm))
  have HLt := fun W (hW : Ext w W) => hid (light28_c W up Fl A AF c cF (hu.ext hW) (hF.ext hW))
  have ht : TreeAt w up Fl A AF c cF := lightT_tree hlt m hm hu hF
  rw [hlt] at HLt
  obtain ⟨ka, kb, z, p, q, ha, hb, ea, eb, em, hme, hmk, hrev, hnd⟩ := meet_at hr
  have hr2 : rightT up Fl b a = true := by
    obtain ⟨r0, r1, r2⟩ := rightT_iff.1 hr
    exact rightT_iff.2 ⟨r0, r2, r1⟩
  have HRt := fun W (hW : Ext w W) => hid (right39_c W up Fl A AF c cF a b (ht.ext hW))
  have HWa := fun W (hW : Ext w W) => hid (way39_c W up Fl A AF c cF a b (ht.ext hW))
  have HWb := fun W (hW : Ext w W) => hid (way39_c W up Fl A AF c cF b a (ht.ext hW))
  have HLk := fun W (hW : Ext w W) x y => hid (linked_c W up Fl A AF c cF x y (ht.ext hW))
  have h0 := (rightT_iff.1 hr).1
  obtain ⟨h1, h2⟩ := ht.cap
  have hl := ht.l
  unfold maxLen at h2
  have ew : wayTT up Fl a b = wayT (upL up a) (upL up b) := by
    unfold wayTT
    rw [em, if_neg (by have := hme.one; omega), ea, eb]
  have ew2 : wayTT up Fl b a = (wayT (upL up a) (upL up b)).reverse := by
    obtain ⟨ka2, kb2, z2, p2, q2, ha2, hb2, ea2, eb2, em2, hme2, _, hrev2, _⟩ := meet_at hr2
    unfold wayTT
    rw [em2, if_neg (by have := hme2.one; omega), ea2, eb2, hrev]
  have hlw : (wayT (upL up a) (upL up b)).length ≤ 1000 := by
    have h64 := (check_zero h0).1
    rw [hme.w]
    have := upL_le up b
    have := upL_le up a
    simp [List.length_take]
    omega
  have hch := way_chain ha hb hme
  have hhd : (wayT (upL up a) (upL up b))[0]? = some a := by
    rw [hme.w]
    exact head_at hme.a (upL_self ha)
  have hls : (wayT (upL up a) (upL up b)).reverse[0]? = some b := by
    have e : (wayT (upL up a) (upL up b)).reverse = (upL up b).take q ++ z :: ((upL up a).take p).reverse := by rw [hme.w]; simp
    rw [e]
    exact head_at hme.b (upL_self hb)
  rw [hr] at HRt
  rw [ew] at HWa
  rw [ew2] at HWb
  have HLy := hid (fun x y (h : Lk up x y) => link_yes h0 h)
  clear hm hu hF hlt ht em ew ew2 hr hr2 ha hb ea eb hme hmk h0 hrev
  generalize wayT (upL up a) (upL up b) = lw at *
  have hn0 : 0 < lw.length := (List.getElem?_eq_some_iff.1 hhd).1
  rw [List.getElem?_reverse hn0] at hls
  have Hhd := hid hhd
  have Hls := hid hls
  have Hnd := hid hnd
  have Hch := hid hch
  clear hhd hls hnd hch
  go_enter Tryz.func8, Tryz.ntmps8
  go_wp2_with fail
  generalize w.alloc (.cells #[.slice A up.length c, .slice AF Fl.length cF] 25) = w0 at HE0 HB0 ⊢
  generalize w.heap.size = g at HB0 ⊢
  have a0 := HB0.out.cell (i := 0) (v := .slice A up.length c) rfl
  have b0 := HB0.out.cell (i := 1) (v := .slice AF Fl.length cF) rfl
  have l0 := HB0.out.lt
  have X0 := hid HE0.out
  refine ((HLt _ X0.out).out).mono ?_
  rintro e w1 ⟨rfl, x1⟩
  have X1 := hid (X0.out.trans x1)
  have HB1 := hid (HB0.out.ext x1)
  have a1 := HB1.out.cell (i := 0) (v := .slice A up.length c) rfl
  have b1 := HB1.out.cell (i := 1) (v := .slice AF Fl.length cF) rfl
  have l1 := HB1.out.lt
  clear x1 HB0 a0 b0 l0
  clear HLt
  go_wp2_with fail
  refine ((HRt _ X1.out).out).mono ?_
  rintro e w2 ⟨rfl, x2⟩
  have X2 := hid (X1.out.trans x2)
  have HB2 := hid (HB1.out.ext x2)
  have a2 := HB2.out.cell (i := 0) (v := .slice A up.length c) rfl
  have b2 := HB2.out.cell (i := 1) (v := .slice AF Fl.length cF) rfl
  have l2 := HB2.out.lt
  clear x2 HB1 a1 b1 l1
  clear HRt
  go_wp2_with fail
  refine wp_region_any_order (by kernel_rfl) (by kernel_rfl) (by kernel_rfl) ?_
  repeat (first
    | (refine AWq.val rfl rfl rfl rfl (fun K hK => ?_); go_big_quiet_op; refine hK _ ?_; clear hK K)
    | (refine AWq.skip rfl rfl rfl ?_; simp only [Act.put, List.setIfInBounds_toArray, List.set_cons_succ, List.set_cons_zero])
    | (refine AWq.callQ ((fun v w' => Sl w' 1 v (Ints lw))) ((fun v _ _ he h => h.ext he)) rfl Tryz.func30 (by kernel_rfl) (by kernel_rfl) rfl rfl rfl (fun wc hc => ?_) ?_; (· (simp only [argsOf, anyAt, ↓reduceIte, Nat.reduceEqDiff, Array.getD_eq_getD_getElem?, List.getElem?_toArray, List.getElem?_cons_succ, List.getElem?_cons_zero, Option.getD_some]; with_reducible exact (HWa _ (X2.out.trans hc)).out)))
    | (refine AWq.callQ ((fun v w' => Sl w' 1 v (Ints lw.reverse))) ((fun v _ _ he h => h.ext he)) rfl Tryz.func30 (by kernel_rfl) (by kernel_rfl) rfl rfl rfl (fun wc hc => ?_) ?_; (· (simp only [argsOf, anyAt, ↓reduceIte, Nat.reduceEqDiff, Array.getD_eq_getD_getElem?, List.getElem?_toArray, List.getElem?_cons_succ, List.getElem?_cons_zero, Option.getD_some]; with_reducible exact (HWb _ (X2.out.trans hc)).out)))
    | (refine AWq.opQ ((fun v w' => Sl w' 1 v (Ints lw))) ((fun v _ _ he h => h.ext he)) rfl (fun a wc hc hl' => ⟨rfl, ?_⟩) ?_; (· (have e := hl' 24 (of_decide_eq_true (by kernel_rfl)); exact ⟨e, Ext.refl _⟩)))
    | (refine AWq.opQ ((fun v w' => Sl w' 1 v (Ints lw.reverse))) ((fun v _ _ he h => h.ext he)) rfl (fun a wc hc hl' => ⟨rfl, ?_⟩) ?_; (· (have e := hl' 28 (of_decide_eq_true (by kernel_rfl)); exact ⟨e, Ext.refl _⟩))))
  refine AWq.done rfl rfl rfl (fun w3 x3 => ?_)
  simp only [closeAny, Act.put, List.setIfInBounds_toArray, List.set_cons_succ, List.set_cons_zero]
  rintro v8 hv8 v7 hv7 _ _ _ _
  have X3 := hid (X2.out.trans x3)
  have HB3 := hid (HB2.out.ext x3)
  clear a2 b2 l2 HB2 x3 HWa HWb
  obtain ⟨A7, c7, rfl, p7, p7', hc7⟩ := sl_get (code := intC) hv7
  obtain ⟨A8, c8, rfl, p8, p8', hc8⟩ := sl_get (code := intC) hv8
  unfold maxLen at p7' p8'
  obtain ⟨b7, o7, rfl, lb7, hcell7⟩ := hc7 hn0
  obtain ⟨b8, o8, rfl, lb8, hcell8⟩ := hc8 (by simp; omega)
  have H7 := hid (fun i z (h : lw[i]? = some z) => (by
    obtain ⟨hi, he⟩ := List.getElem?_eq_some_iff.1 h
    have := hcell7 i hi 0 (.int .i64 z) (by rw [he]; rfl)
    simp only [Nat.mul_one, Nat.add_zero] at this
    exact this : w3.cell? ⟨b7, o7 + i, none⟩ = some (.int .i64 z)))
  have H8 := hid (fun i z (hi : i < lw.length) (h : lw[lw.length - 1 - i]? = some z) => (by
    have hi' : i < lw.reverse.length := by simpa using hi
    have e : lw.reverse[i]? = some z := by rw [List.getElem?_reverse hi]; exact h
    obtain ⟨_, he⟩ := List.getElem?_eq_some_iff.1 e
    have := hcell8 i hi' 0 (.int .i64 z) (by rw [he]; rfl)
    simp only [Nat.mul_one, Nat.add_zero] at this
    exact this : w3.cell? ⟨b8, o8 + i, none⟩ = some (.int .i64 z)))
  have HHs := hid (fun W (hW : Ext w3 W) i z (hi : i < lw.length) (h : lw[i]? = some z) => (by
    have e1 : z ∉ lw.take i := fun hz => by
      obtain ⟨j, hj, hjz⟩ := List.mem_iff_getElem.1 hz
      have hj' : j < i := by have := hj; rw [List.length_take] at this; omega
      rw [List.getElem_take] at hjz
      obtain ⟨hi2, he⟩ := List.getElem?_eq_some_iff.1 h
      have := (List.pairwise_iff_getElem.1 Hnd.out) j i (by omega) hi2 hj'
      exact this (by rw [hjz, he])
    have hs : Sl W 1 (.slice (some ⟨b7, o7, none⟩) i c7) (Ints (lw.take i)) := by
      have := sl_take (hv7.ext hW) (show i ≤ lw.length by omega)
      unfold Ints at this ⊢
      rw [List.map_take]
      exact this
    have := rhas_c W _ (lw.take i) z hs
    rw [decide_eq_false e1] at this
    exact this : Calls Tryz.prog 37 #[.slice (some ⟨b7, o7, none⟩) i c7, .int .i64 z] W (Ret (.bool false) W)))
  clear hv7 hv8 hcell7 hcell8 hc7 hc8 Hnd
  have hlen : lw.reverse.length = lw.length := List.length_reverse
  rw [hlen] at p8
  simp only [hlen]
  clear hlen
  obtain ⟨N, hN⟩ : ∃ N, lw.length = N + 1 := ⟨lw.length - 1, by omega⟩
  have HN := hid hN
  have y0 := H7.out 0 a Hhd.out
  have yl := H7.out N b (by have := Hls.out; rw [hN] at this; simpa using this)
  rw [Nat.add_zero] at y0
  rw [hN] at p7 p8 hlw H8 HHs
  simp only [hN]
  have H8 := hid (fun i z (hi : i < N + 1) (h : lw[N - i]? = some z) => H8.out i z hi (by rw [show N + 1 - 1 - i = N - i by omega]; exact h))
  clear hN hn0 Hhd Hls
  have dz : ((N : Int) + 1 == 0) = false := by simp; omega
  go_wp2_with fail
  go_loopw [9] (fun s9 wr => ∃ k : Nat, k ≤ N + 1 ∧ s9 = .int .i64 k ∧ Ext w3 wr) (fun s9 _ => N + 1 - (intOf s9).toNat)
  case atStart => exact ⟨0, by omega, rfl, Ext.refl _⟩
  case round =>
    obtain ⟨k, hk, rfl, hE⟩ := hrel
    have HE := hid hE
    have XR := hid (X3.out.trans hE)
    have HBR := hid (HB3.out.ext hE)
    have aR := HBR.out.cell (i := 0) (v := .slice A up.length c) rfl
    have bR := HBR.out.cell (i := 1) (v := .slice AF Fl.length cF) rfl
    have lR := HBR.out.lt
    have lbr7 := Nat.lt_of_lt_of_le lb7 hE.size
    have lbr8 := Nat.lt_of_lt_of_le lb8 hE.size
    clear y0 yl dz
    by_cases hlt : k < N + 1
    · have hkl : k < lw.length := by have := HN.out; omega
      have hz := List.getElem?_eq_getElem hkl
      have k7 := hE.cell (H7.out k _ hz)
      have HH := fun W (hW : Ext wr W) => hid (HHs.out W (hE.trans hW) k lw[k] hlt hz)
      rcases k with _ | k'
      · have k8 := hE.cell (H8.out N lw[0] (by omega) (by rw [show N - N = 0 by omega]; exact hz))
        have e00 : ((0 : Nat) : Int) = 0 := rfl
        rw [Nat.add_zero] at k7
        rw [e00]
        clear hE H7 H8 HHs HLk HLy Hch e00
        generalize lw[0] = z at k7 k8 HH
        go_wp2_with fail
        refine wp_region_any_order (by kernel_rfl) (by kernel_rfl) (by kernel_rfl) ?_
        repeat (first
          | (refine AWq.val rfl rfl rfl rfl (fun K hK => ?_); go_big_quiet_op; refine hK _ ?_; clear hK K)
          | (refine AWq.skip rfl rfl rfl ?_; simp only [Act.put, List.setIfInBounds_toArray, List.set_cons_succ, List.set_cons_zero])
          | (refine AWq.call rfl Tryz.func37 (by kernel_rfl) (by kernel_rfl) rfl rfl rfl ?_; apply Exists.intro; refine And.intro (fun wc hc => ?_) ?_; (· (simp only [argsOf, anyAt, ↓reduceIte, Nat.reduceEqDiff, Array.getD_eq_getD_getElem?, List.getElem?_toArray, List.getElem?_cons_succ, List.getElem?_cons_zero, Option.getD_some]; with_reducible exact (HH _ hc).out)); simp only [Act.put, List.setIfInBounds_toArray, List.set_cons_succ, List.set_cons_zero]))
        refine AWq.done rfl rfl rfl (fun w9 x9 => ?_)
        simp only [closeAny, Act.put, List.setIfInBounds_toArray, List.set_cons_succ, List.set_cons_zero]
        go_wp2_with fail
        go_roundw
        case rel => exact ⟨1, by omega, by go_num, HE.out.trans x9⟩
        case measure => first | (simp [intOf]; done) | (simp [intOf]; omega)
      · obtain ⟨j, rfl⟩ : ∃ j, N = (k' + 1) + j := ⟨N - (k' + 1), by omega⟩
        have k8 := hE.cell (H8.out j lw[k' + 1] (by omega) (by rw [show (k' + 1) + j - j = k' + 1 by omega]; exact hz))
        have hkl' : k' < lw.length := by omega
        have hz' := List.getElem?_eq_getElem hkl'
        have k6 := hE.cell (H7.out k' _ hz')
        have hy := HLy.out _ _ (Hch.out k' _ _ hz' hz)
        have HK := fun W (hW : Ext wr W) => HLk W (XR.out.trans hW) lw[k'] lw[k' + 1]
        rw [hy] at HK
        clear hE H7 H8 HHs HLk HLy Hch hy hz hz'
        generalize lw[k' + 1] = z at k7 k8 HH HK
        generalize lw[k'] = zp at k6 HK
        go_wp2_with fail
        refine wp_region_any_order (by kernel_rfl) (by kernel_rfl) (by kernel_rfl) ?_
        repeat (first
          | (refine AWq.val rfl rfl rfl rfl (fun K hK => ?_); go_big_quiet_op; refine hK _ ?_; clear hK K)
          | (refine AWq.skip rfl rfl rfl ?_; simp only [Act.put, List.setIfInBounds_toArray, List.set_cons_succ, List.set_cons_zero])
          | (refine AWq.call rfl Tryz.func37 (by kernel_rfl) (by kernel_rfl) rfl rfl rfl ?_; apply Exists.intro; refine And.intro (fun wc hc => ?_) ?_; (· (simp only [argsOf, anyAt, ↓reduceIte, Nat.reduceEqDiff, Array.getD_eq_getD_getElem?, List.getElem?_toArray, List.getElem?_cons_succ, List.getElem?_cons_zero, Option.getD_some]; with_reducible exact (HH _ hc).out)); simp only [Act.put, List.setIfInBounds_toArray, List.set_cons_succ, List.set_cons_zero])
          | (refine AWq.call rfl Tryz.func27 (by kernel_rfl) (by kernel_rfl) rfl rfl rfl ?_; apply Exists.intro; refine And.intro (fun wc hc => ?_) ?_; (· (simp only [argsOf, anyAt, ↓reduceIte, Nat.reduceEqDiff, Array.getD_eq_getD_getElem?, List.getElem?_toArray, List.getElem?_cons_succ, List.getElem?_cons_zero, Option.getD_some]; with_reducible exact (HK _ hc).out)); simp only [Act.put, List.setIfInBounds_toArray, List.set_cons_succ, List.set_cons_zero]))
        refine AWq.done rfl rfl rfl (fun w9 x9 => ?_)
        simp only [closeAny, Act.put, List.setIfInBounds_toArray, List.set_cons_succ, List.set_cons_zero]
        go_wp2_with fail
        go_roundw
        case rel => exact ⟨k' + 1 + 1, by omega, by go_num, HE.out.trans x9⟩
        case measure => simp [intOf]; omega
    · obtain rfl : k = N + 1 := by omega
      clear H7 H8 HHs HLk HLy Hch hE
      go_wp2_with fail
      refine ((HAw _ XR.out).out).mono ?_
      rintro e w5 ⟨rfl, x5⟩
      have X5 := hid (XR.out.trans x5)
      clear x5
      go_wp2_with fail
      go_ret
      exact ⟨rfl, X5.out⟩
end Go.Proofs.YtjnjamhohnnefaaGreatDoor
