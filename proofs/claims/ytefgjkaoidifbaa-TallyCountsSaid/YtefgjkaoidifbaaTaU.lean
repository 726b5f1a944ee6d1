/-
  The law TallyCounts: its walk.
-/
import Derived.Test.YtefgjkaoidifbaaTaQ
import Derived.Test.YtefgjkaoidifbaaTaL
namespace Go.Proofs.Ytefgjkaoidifbaa
set_option linter.unusedSimpArgs false
set_option linter.unusedVariables false
open Go.RowKit Go.Maps

theorem sl_cut {w : World} {sz n c k : Nat} {A : Option Addr} {xs : List (List Value)} (h : Sl w sz (.slice A n c) xs) (hk : k ≤ n) : Sl w sz (.slice A k c) (xs.take k) := by
  obtain ⟨A', c', h1, h2, h3, h4⟩ := h
  injection h1 with hA hn hc
  subst hA; subst hc
  have hlen : (xs.take k).length = k := by simp; omega
  refine ⟨_, c, by rw [hlen], by rw [hlen]; omega, h3, fun hp => ?_⟩
  obtain ⟨b', o', h5, h6, h7⟩ := h4 (by omega)
  exact ⟨b', o', h5, h6, fun k x j u hk hj => h7 k x j u (by rw [List.getElem?_take] at hk; split at hk; exact hk; cases hk) hj⟩
theorem sl_rest {w : World} {sz n c k : Nat} {A : Option Addr} {xs : List (List Value)} (h : Sl w sz (.slice A n c) xs) (hk : k ≤ n) : Sl w sz (.slice (if c = k then A else A.map (·.add (k * sz))) (n - k) (c - k)) (xs.drop k) := by
  obtain ⟨A', c', h1, h2, h3, h4⟩ := h
  injection h1 with hA hn hc
  subst hA; subst hc
  refine ⟨_, c - k, by rw [List.length_drop, hn], by rw [List.length_drop]; omega, by omega, fun hp => ?_⟩
  rw [List.length_drop] at hp
  obtain ⟨b, o, h5, h6, h7⟩ := h4 (by omega)
  rw [if_neg (by omega), h5]
  refine ⟨b, o + k * sz, by rw [Option.map_some, Addr.add_lit], h6, fun i x j u hi hj => ?_⟩
  rw [List.getElem?_drop] at hi
  have := h7 (k + i) x j u hi hj
  rw [Nat.add_mul, ← Nat.add_assoc] at this
  exact this
theorem take_low {α : Type} (r : List α) (k : Nat) : r.take (min k r.length) = r.take k := by
  rcases Nat.le_total k r.length with h | h
  · rw [Nat.min_eq_left h]
  · rw [Nat.min_eq_right h, List.take_length, List.take_of_length_le h]
theorem drop_low {α : Type} (r : List α) (k : Nat) : r.drop (min k r.length) = r.drop k := by
  rcases Nat.le_total k r.length with h | h
  · rw [Nat.min_eq_left h]
  · rw [Nat.min_eq_right h, List.drop_length, List.drop_of_length_le h]

set_option maxRecDepth 100000 in
set_option maxHeartbeats 4000000 in
theorem counts_walk (w : World) (A A' : Option Addr) (c c' : Nat) (l : List ActI) (r : List RepI) (at_ : Int)   (hs : Sl w 8 (.slice A l.length c) (l.map ActI.cells)) (hr : Sl w 9 (.slice A' r.length c') (r.map RepI.cells)) (hl : l.length ≤ 100) (hrl : r.length ≤ 100) (hk : ∀ a ∈ l, okK a.kind) (h0 : 0 ≤ at_) (h1 : at_ ≤ 255) : Calls Try.prog 8 #[.slice A l.length c, .slice A' r.length c', .int .u8 at_] w (Ret (.bool true) w) := by
  obtain ⟨k, hkk⟩ : ∃ k : Nat, at_ % ((l.length : Int) + 1) = k := ⟨(at_ % ((l.length : Int) + 1)).toNat, by have := Int.emod_nonneg at_ (b := (l.length : Int) + 1) (by omega); omega⟩
  have hkl : k ≤ l.length := by have := Int.emod_lt_of_pos at_ (b := (l.length : Int) + 1) (by omega); omega
  obtain ⟨n, hn⟩ : ∃ n, n = min k r.length := ⟨_, rfl⟩
  have hnr : n ≤ r.length := by omega
  have HTk : Hid (r.take k = r.take n ∧ r.drop k = r.drop n) := by rw [hn]; exact ⟨(take_low r k).symm, (drop_low r k).symm⟩
  have HLow : Hid (∀ W, Calls Try.prog 43 #[.int .i64 k, .int .i64 r.length] W (Ret (.int .i64 n) W)) := fun W => by
    have := low_c (k : Int) (r.length : Int) W
    rw [show min (k : Int) (r.length : Int) = (n : Int) by omega] at this
    exact this
  have HSL := hid hs
  have HSR := hid hr
  have HK := hid hk
  have hOf := tof_c w _ _ l r hs hr hl hk
  have hg1 : ∀ x ∈ gat (cnts l r), Bd 1100000000000 x := fun x hx => by have := gat_cnts hl hx; unfold Bd at *; omega
  have hg2 := gat_len (cnts l r)
  rw [cnts_len] at hg2
  have hg3 := all_acts l r
  have HLn : Hid ((gat (cnts (l.take k) (r.take k))).length + (gat (cnts (l.drop k) (r.drop k))).length ≤ 900 ∧ (∀ x ∈ gat (cnts (l.take k) (r.take k)) ++ gat (cnts (l.drop k) (r.drop k)), Bd 1100000000000 x ∧ okK x.kind) ∧ (∀ x ∈ gat (cnts (l.drop k) (r.drop k)) ++ gat (cnts (l.take k) (r.take k)), Bd 1100000000000 x ∧ okK x.kind)) := by
    have a1 := gat_len (cnts (l.take k) (r.take k))
    have a2 := gat_len (cnts (l.drop k) (r.drop k))
    rw [cnts_len, List.length_take] at a1
    rw [cnts_len, List.length_drop] at a2
    have b1 : ∀ x ∈ gat (cnts (l.take k) (r.take k)), Bd 1100000000000 x ∧ okK x.kind := fun x hx => by
      obtain ⟨a, ha, e⟩ := gat_kinds hx
      have := gat_cnts (by rw [List.length_take]; omega) hx
      exact ⟨by unfold Bd at *; omega, by rw [e]; exact hk a (List.mem_of_mem_take ha)⟩
    have b2 : ∀ x ∈ gat (cnts (l.drop k) (r.drop k)), Bd 1100000000000 x ∧ okK x.kind := fun x hx => by
      obtain ⟨a, ha, e⟩ := gat_kinds hx
      have := gat_cnts (by rw [List.length_drop]; omega) hx
      exact ⟨by unfold Bd at *; omega, by rw [e]; exact hk a (List.mem_of_mem_drop ha)⟩
    exact ⟨by omega, fun x hx => (List.mem_append.1 hx).elim (b1 x) (b2 x), fun x hx => (List.mem_append.1 hx).elim (b2 x) (b1 x)⟩
  obtain ⟨g, hg⟩ : ∃ g, gat (cnts l r) = g := ⟨_, rfl⟩
  rw [hg] at hOf hg1 hg2 hg3
  obtain ⟨s, hs0⟩ : ∃ s, s = g.foldl addC ⟨0, 0, 0, 0⟩ := ⟨_, rfl⟩
  rw [← hs0] at hg3
  have HOf := hid hOf
  have HG := hid hg
  have HGl : Hid (g.length ≤ 900 ∧ ∀ x ∈ g, Bd 1100000000000 x) := ⟨by omega, hg1⟩
  have HSm : Hid (s = g.foldl addC ⟨0, 0, 0, 0⟩ ∧ s.acts = l.length) := ⟨hs0, hg3⟩
  clear hOf hg hg1 hg2 hg3 hs0
  have hc : l.length ≤ c ∧ c ≤ maxLen := by obtain ⟨_, _, e, h2, h3, _⟩ := sl_get hs; injection e with _ _ e; subst e; exact ⟨h2, h3⟩
  have hc' : r.length ≤ c' ∧ c' ≤ maxLen := by obtain ⟨_, _, e, h2, h3, _⟩ := sl_get hr; injection e with _ _ e; subst e; exact ⟨h2, h3⟩
  unfold maxLen at hc hc'
  have HNk : Hid (n < k → r.drop k = []) := fun h => List.drop_eq_nil_of_le (by omega)
  clear hs hr hk hn
  go_enter Try.func8, Try.ntmps8
  go_wp2_with fail
  (skip)
  go_wp2_with (first
    | (go_at_call 42; refine (HOf.out).mono ?_; rintro e w1 ⟨v1, rfl, hv1, hx1⟩; have HV1 := hid hv1; have HX1 := hid hx1; clear hv1 hx1)
    | (go_at_call 43; refine (HLow.out _).mono ?_; rintro e w2 ⟨rfl, hx2⟩; have HX2 := hid hx2; clear hx2))
  have HP1 : Hid (∀ W X Y, Ext w2 W → Sl W 8 X ((l.take k).map ActI.cells) → Sl W 9 Y ((r.take k).map RepI.cells) → Calls Try.prog 42 #[X, Y] W (RetQ (RowAt Cnt.cells 4 (gat (cnts (l.take k) (r.take k)))) W)) := fun W X Y _ h1 h2 => tof_c W X Y _ _ h1 h2 (by rw [List.length_take]; omega) (fun a ha => HK.out a (List.mem_of_mem_take ha))
  have HP2 : Hid (∀ W X Y, Ext w2 W → Sl W 8 X ((l.drop k).map ActI.cells) → Sl W 9 Y ((r.drop k).map RepI.cells) → Calls Try.prog 42 #[X, Y] W (RetQ (RowAt Cnt.cells 4 (gat (cnts (l.drop k) (r.drop k)))) W)) := fun W X Y _ h1 h2 => tof_c W X Y _ _ h1 h2 (by rw [List.length_drop]; omega) (fun a ha => HK.out a (List.mem_of_mem_drop ha))
  have HSL2 := hid (HSL.out.ext (HX1.out.trans HX2.out))
  have HSR2 := hid (HSR.out.ext (HX1.out.trans HX2.out))
  have HT1 : Hid (∀ W, Ext w2 W → Sl W 8 (.slice A k c) ((l.take k).map ActI.cells)) := fun W hW => by rw [List.map_take]; exact sl_cut (HSL2.out.ext hW) hkl
  have HT2 : Hid (∀ W, Ext w2 W → Sl W 9 (.slice A' n c') ((r.take k).map RepI.cells)) := fun W hW => by rw [HTk.out.1, List.map_take]; exact sl_cut (HSR2.out.ext hW) hnr
  have HT3 : Hid (∀ W, Ext w2 W → Sl W 8 (.slice (if c = k then A else A.map (·.add (k * 8))) (l.length - k) (c - k)) ((l.drop k).map ActI.cells)) := fun W hW => by rw [List.map_drop]; exact sl_rest (HSL2.out.ext hW) hkl
  have HT4 : Hid (∀ W, Ext w2 W → Sl W 9 (.slice (if c' = n then A' else A'.map (·.add (n * 9))) (r.length - n) (c' - n)) ((r.drop k).map RepI.cells)) := fun W hW => by rw [HTk.out.2, List.map_drop]; exact sl_rest (HSR2.out.ext hW) hnr
  refine wp_region_any_order (by kernel_rfl) (by kernel_rfl) (by kernel_rfl) ?_
  repeat (first
    | (refine AWq.val rfl rfl rfl rfl (fun K hK => ?_); go_big_quiet_op; refine hK _ ?_; clear hK K)
    | (refine AWq.skip rfl rfl rfl ?_; simp only [Act.put, List.setIfInBounds_toArray, List.set_cons_succ, List.set_cons_zero])
    | (refine AWq.callQ (RowAt Cnt.cells 4 (gat (cnts (l.take k) (r.take k)))) (RowAt.steady _ _ _) rfl Try.func42 (by kernel_rfl) (by kernel_rfl) rfl rfl rfl (fun wc hc => ?_) ?_; (· (simp only [argsOf, anyAt, ↓reduceIte, Nat.reduceEqDiff, Array.getD_eq_getD_getElem?, List.getElem?_toArray, List.getElem?_cons_succ, List.getElem?_cons_zero, Option.getD_some]; with_reducible exact HP1.out _ _ _ hc (HT1.out _ hc) (HT2.out _ hc))))
    | (refine AWq.callQ (RowAt Cnt.cells 4 (gat (cnts (l.drop k) (r.drop k)))) (RowAt.steady _ _ _) rfl Try.func42 (by kernel_rfl) (by kernel_rfl) rfl rfl rfl (fun wc hc => ?_) ?_; (· (simp only [argsOf, anyAt, ↓reduceIte, Nat.reduceEqDiff, Array.getD_eq_getD_getElem?, List.getElem?_toArray, List.getElem?_cons_succ, List.getElem?_cons_zero, Option.getD_some]; with_reducible exact HP2.out _ _ _ hc (HT3.out _ hc) (HT4.out _ hc))))
    | (refine AWq.opQ (RowAt Cnt.cells 4 (gat (cnts (l.take k) (r.take k)))) (RowAt.steady _ _ _) rfl (fun a wc hc hl' => ⟨rfl, ?_⟩) ?_; (· (have e := hl' 41 (of_decide_eq_true (by kernel_rfl)); exact ⟨e, Ext.refl _⟩)))
    | (refine AWq.opQ (RowAt Cnt.cells 4 (gat (cnts (l.drop k) (r.drop k)))) (RowAt.steady _ _ _) rfl (fun a wc hc hl' => ⟨rfl, ?_⟩) ?_; (· (have e := hl' 48 (of_decide_eq_true (by kernel_rfl)); exact ⟨e, Ext.refl _⟩))))
  refine AWq.done rfl rfl rfl (fun w3 x3 => ?_)
  simp only [closeAny, Act.put, List.setIfInBounds_toArray, List.set_cons_succ, List.set_cons_zero]
  intro ub hub ua hua _ _ _ _
  have HUA := hid hua
  have HX3 := hid (HX2.out.trans x3)
  have HS1 : Hid (∀ W y, Ext w3 W → RowAt Cnt.cells 4 g y W → Calls Try.prog 44 #[v1, y] W (Ret (.bool true) W)) := fun W y hW hy => csame_c W v1 y g (HV1.out.1.ext (HX3.out.trans hW)) hy.1
  have HS2 : Hid (∀ W y, Ext w3 W → RowAt Cnt.cells 4 g y W → Calls Try.prog 44 #[y, v1] W (Ret (.bool true) W)) := fun W y hW hy => csame_c W y v1 g hy.1 (HV1.out.1.ext (HX3.out.trans hW))
  have HD1 : Hid (∀ W U, Ext w3 W → RowAt Cnt.cells 4 (gat (cnts (l.drop k) (r.drop k))) U W → Calls Try.prog 46 #[ua, U] W (RetQ (RowAt Cnt.cells 4 g) W)) := fun W U hW hU => by
    have := cadd_c W ua U _ _ (HUA.out.1.ext hW) hU.1 HLn.out.1 HLn.out.2.1
    rw [gat_gat, ← cnts_split, HG.out] at this
    exact this
  have HD2 : Hid (∀ W U, Ext w3 W → RowAt Cnt.cells 4 (gat (cnts (l.drop k) (r.drop k))) U W → Calls Try.prog 46 #[U, ua] W (RetQ (RowAt Cnt.cells 4 g) W)) := fun W U hW hU => by
    have := cadd_c W U ua _ _ hU.1 (HUA.out.1.ext hW) (by have := HLn.out.1; omega) HLn.out.2.2
    rw [gat_swap, ← cnts_split, HG.out] at this
    exact this
  have HRO : Hid (∀ W X Y, Sl W 8 X (l.map ActI.cells) → Sl W 9 Y (r.map RepI.cells) → Calls Try.prog 45 #[X, Y] W (RetQ (RowAt Cnt.cells 4 g) W)) := fun W X Y h1 h2 => by
    have := rof_c W _ _ l r h1 h2 (by omega)
    rw [HG.out] at this
    exact this
  have HQ1 : Hid (∀ W, Ext w3 W → Sl W 8 (.slice A l.length c) (l.map ActI.cells)) := fun W hW => HSL.out.ext ((HX1.out.trans HX3.out).trans hW)
  have HQ2 : Hid (∀ W, Ext w3 W → Sl W 9 (.slice A' r.length c') (r.map RepI.cells)) := fun W hW => HSR.out.ext ((HX1.out.trans HX3.out).trans hW)
  have HAll : Hid (∀ W, Ext w3 W → Calls Try.prog 47 #[v1] W (Ret (.agg #[.int .i64 s.kind, .int .i64 l.length, .int .i64 s.errs, .int .i64 s.made]) W)) := fun W hW => by
    have := call_c W v1 g (HV1.out.1.ext (HX3.out.trans hW)) HGl.out.1 HGl.out.2
    rw [← HSm.out.1] at this
    unfold Cnt.val at this
    rw [HSm.out.2] at this
    exact this
  have HAw : Hid (∀ W, Ext w3 W → Calls Try.prog 21 #[] W (Ret (.bool true) W)) := fun W _ => awake38_c W
  have HP3 : Hid (n < k → ∀ X, Sl w3 8 X ((l.drop k).map ActI.cells) → Calls Try.prog 42 #[X, .slice none 0 0] w3 (RetQ (RowAt Cnt.cells 4 (gat (cnts (l.drop k) (r.drop k)))) w3)) := fun h X hX => HP2.out w3 X _ x3 hX (by rw [HNk.out h]; exact Sl.nil _ _)
  have HT5 := hid (HT3.out _ x3)
  have HUB := hid hub
  clear HLn HG HGl HSm hub hua x3 HP1 HP2 HT1 HT2 HT3 HT4 HNk HSL2 HSR2 HSL HSR HTk HLow HK HOf HX2
  have hfd : ∀ W : World, (Instr.field 58 (.agg #[.int .i64 s.kind, .int .i64 l.length, .int .i64 s.errs, .int .i64 s.made]) 1).run Try.prog W = .ok (.int .i64 l.length) W := fun _ => by kernel_rfl
  by_cases hnk : n < k
  · have d9 : decide (n < k) = true := decide_eq_true hnk
    have HP3 := hid (HP3.out hnk)
    clear HUB hnk
    go_wp2_with (first
      | (go_at_call 47; refine (HAll.out _ HXG.out).mono ?_; rintro e wh ⟨rfl, hxh⟩; have HXH := hid (HXG.out.trans hxh); clear hxh HXG)
      | (go_at_call 44; refine (HS2.out _ _ HXF.out HVF.out).mono ?_; rintro e wg ⟨rfl, hxg⟩; have HXG := hid (HXF.out.trans hxg); clear hxg HXF HVF)
      | (go_at_call 46; refine (HD2.out _ _ HXE.out HUE.out).mono ?_; rintro e wf ⟨vf, rfl, hvf, hxf⟩; have HXF := hid (HXE.out.trans hxf); have HVF := hid hvf; clear hxf hvf HXE HUE)
      | (go_at_call 44; refine (HS2.out _ _ HXD.out HVD.out).mono ?_; rintro e we ⟨rfl, hxe⟩; have HXE := hid (HXD.out.trans hxe); have HUE := hid (HUD.out.ext hxe); clear hxe HXD HVD HUD)
      | (go_at_call 46; refine (HD1.out _ _ HXC.out HUC.out).mono ?_; rintro e wd ⟨vd, rfl, hvd, hxd⟩; have HXD := hid (HXC.out.trans hxd); have HVD := hid hvd; have HUD := hid (HUC.out.ext hxd); clear hxd hvd HXC HUC)
      | (go_at_call 44; refine (HS1.out _ _ HXB.out HVB.out).mono ?_; rintro e wc ⟨rfl, hxc⟩; have HXC := hid (HXB.out.trans hxc); have HUC := hid (HUB2.out.ext hxc); clear hxc HXB HVB HUB2)
      | (go_at_call 45; refine (HRO.out _ _ _ (by first | with_reducible exact HQ1.out _ HXA.out | (have h := HQ1.out _ HXA.out; rw [‹c = k›] at h; exact h)) (by first | with_reducible exact HQ2.out _ HXA.out | (have h := HQ2.out _ HXA.out; rw [‹c' = n›] at h; exact h))).mono ?_; rintro e wb ⟨vb, rfl, hvb, hxb⟩; have HXB := hid (HXA.out.trans hxb); have HVB := hid hvb; have HUB2 := hid (HUA2.out.ext hxb); clear hxb hvb HXA HUA2)
      | (go_at_call 21; refine (HAw.out _ HZ.out).mono ?_; rintro e wa ⟨rfl, hxa⟩; have HXA := hid (HZ.out.trans hxa); have HUA2 := hid (HUB.out.ext hxa); clear hxa HZ HUB)
      | (go_at_call 42; refine (HP3.out _ HT5.out).mono ?_; rintro e wz ⟨ub, rfl, hub, hz⟩; have HUB := hid hub; have HZ := hid hz; clear hub hz HP3 HT5))
    all_goals go_ret
    all_goals exact ⟨rfl, HX1.out.trans (HX3.out.trans HXH.out)⟩
  · have d9 : decide (n < k) = false := decide_eq_false hnk
    have HZ := hid (Ext.refl w3)
    clear HP3 HT5 hnk
    go_wp2_with (first
      | (go_at_call 47; refine (HAll.out _ HXG.out).mono ?_; rintro e wh ⟨rfl, hxh⟩; have HXH := hid (HXG.out.trans hxh); clear hxh HXG)
      | (go_at_call 44; refine (HS2.out _ _ HXF.out HVF.out).mono ?_; rintro e wg ⟨rfl, hxg⟩; have HXG := hid (HXF.out.trans hxg); clear hxg HXF HVF)
      | (go_at_call 46; refine (HD2.out _ _ HXE.out HUE.out).mono ?_; rintro e wf ⟨vf, rfl, hvf, hxf⟩; have HXF := hid (HXE.out.trans hxf); have HVF := hid hvf; clear hxf hvf HXE HUE)
      | (go_at_call 44; refine (HS2.out _ _ HXD.out HVD.out).mono ?_; rintro e we ⟨rfl, hxe⟩; have HXE := hid (HXD.out.trans hxe); have HUE := hid (HUD.out.ext hxe); clear hxe HXD HVD HUD)
      | (go_at_call 46; refine (HD1.out _ _ HXC.out HUC.out).mono ?_; rintro e wd ⟨vd, rfl, hvd, hxd⟩; have HXD := hid (HXC.out.trans hxd); have HVD := hid hvd; have HUD := hid (HUC.out.ext hxd); clear hxd hvd HXC HUC)
      | (go_at_call 44; refine (HS1.out _ _ HXB.out HVB.out).mono ?_; rintro e wc ⟨rfl, hxc⟩; have HXC := hid (HXB.out.trans hxc); have HUC := hid (HUB2.out.ext hxc); clear hxc HXB HVB HUB2)
      | (go_at_call 45; refine (HRO.out _ _ _ (by first | with_reducible exact HQ1.out _ HXA.out | (have h := HQ1.out _ HXA.out; rw [‹c = k›] at h; exact h)) (by first | with_reducible exact HQ2.out _ HXA.out | (have h := HQ2.out _ HXA.out; rw [‹c' = n›] at h; exact h))).mono ?_; rintro e wb ⟨vb, rfl, hvb, hxb⟩; have HXB := hid (HXA.out.trans hxb); have HVB := hid hvb; have HUB2 := hid (HUA2.out.ext hxb); clear hxb hvb HXA HUA2)
      | (go_at_call 21; refine (HAw.out _ HZ.out).mono ?_; rintro e wa ⟨rfl, hxa⟩; have HXA := hid (HZ.out.trans hxa); have HUA2 := hid (HUB.out.ext hxa); clear hxa HZ HUB)
      | (go_at_call 42; refine (HP3.out _ HT5.out).mono ?_; rintro e wz ⟨ub, rfl, hub, hz⟩; have HUB := hid hub; have HZ := hid hz; clear hub hz HP3 HT5))
    all_goals go_ret
    all_goals exact ⟨rfl, HX1.out.trans (HX3.out.trans HXH.out)⟩
set_option maxRecDepth 100000 in
set_option maxHeartbeats 4000000 in
theorem counts_l (w : World) (A A' : Option Addr) (c c' : Nat) (l : List ActI) (r : List RepI) (at_ : Int) (b0 o0 N : Nat) (hBd : A = some ⟨b0, o0, none⟩) (hN : 100 < N) (hNc : N ≤ c) (hL : l.length = 100)  (hs : Sl w 8 (.slice A l.length c) (l.map ActI.cells)) (hr : Sl w 9 (.slice A' r.length c') (r.map RepI.cells)) (hl : l.length ≤ 100) (hrl : r.length ≤ 100) (hk : ∀ a ∈ l, okK a.kind) (h0 : 0 ≤ at_) (h1 : at_ ≤ 255) : Calls Try.prog 8 #[.slice (some ⟨b0, o0, none⟩) N c, .slice A' r.length c', .int .u8 at_] w (Ret (.bool true) w) := by
  have dN : decide (100 < N) = true := decide_eq_true hN
  have HVL := hid (show Value.slice (some ⟨b0, o0, none⟩) 100 c = Value.slice A l.length c by rw [hL, hBd])
  clear hBd hL
  obtain ⟨k, hkk⟩ : ∃ k : Nat, at_ % ((l.length : Int) + 1) = k := ⟨(at_ % ((l.length : Int) + 1)).toNat, by have := Int.emod_nonneg at_ (b := (l.length : Int) + 1) (by omega); omega⟩
  have hkl : k ≤ l.length := by have := Int.emod_lt_of_pos at_ (b := (l.length : Int) + 1) (by omega); omega
  obtain ⟨n, hn⟩ : ∃ n, n = min k r.length := ⟨_, rfl⟩
  have hnr : n ≤ r.length := by omega
  have HTk : Hid (r.take k = r.take n ∧ r.drop k = r.drop n) := by rw [hn]; exact ⟨(take_low r k).symm, (drop_low r k).symm⟩
  have HLow : Hid (∀ W, Calls Try.prog 43 #[.int .i64 k, .int .i64 r.length] W (Ret (.int .i64 n) W)) := fun W => by
    have := low_c (k : Int) (r.length : Int) W
    rw [show min (k : Int) (r.length : Int) = (n : Int) by omega] at this
    exact this
  have HSL := hid hs
  have HSR := hid hr
  have HK := hid hk
  have hOf := tof_c w _ _ l r hs hr hl hk
  have hg1 : ∀ x ∈ gat (cnts l r), Bd 1100000000000 x := fun x hx => by have := gat_cnts hl hx; unfold Bd at *; omega
  have hg2 := gat_len (cnts l r)
  rw [cnts_len] at hg2
  have hg3 := all_acts l r
  have HLn : Hid ((gat (cnts (l.take k) (r.take k))).length + (gat (cnts (l.drop k) (r.drop k))).length ≤ 900 ∧ (∀ x ∈ gat (cnts (l.take k) (r.take k)) ++ gat (cnts (l.drop k) (r.drop k)), Bd 1100000000000 x ∧ okK x.kind) ∧ (∀ x ∈ gat (cnts (l.drop k) (r.drop k)) ++ gat (cnts (l.take k) (r.take k)), Bd 1100000000000 x ∧ okK x.kind)) := by
    have a1 := gat_len (cnts (l.take k) (r.take k))
    have a2 := gat_len (cnts (l.drop k) (r.drop k))
    rw [cnts_len, List.length_take] at a1
    rw [cnts_len, List.length_drop] at a2
    have b1 : ∀ x ∈ gat (cnts (l.take k) (r.take k)), Bd 1100000000000 x ∧ okK x.kind := fun x hx => by
      obtain ⟨a, ha, e⟩ := gat_kinds hx
      have := gat_cnts (by rw [List.length_take]; omega) hx
      exact ⟨by unfold Bd at *; omega, by rw [e]; exact hk a (List.mem_of_mem_take ha)⟩
    have b2 : ∀ x ∈ gat (cnts (l.drop k) (r.drop k)), Bd 1100000000000 x ∧ okK x.kind := fun x hx => by
      obtain ⟨a, ha, e⟩ := gat_kinds hx
      have := gat_cnts (by rw [List.length_drop]; omega) hx
      exact ⟨by unfold Bd at *; omega, by rw [e]; exact hk a (List.mem_of_mem_drop ha)⟩
    exact ⟨by omega, fun x hx => (List.mem_append.1 hx).elim (b1 x) (b2 x), fun x hx => (List.mem_append.1 hx).elim (b2 x) (b1 x)⟩
  obtain ⟨g, hg⟩ : ∃ g, gat (cnts l r) = g := ⟨_, rfl⟩
  rw [hg] at hOf hg1 hg2 hg3
  obtain ⟨s, hs0⟩ : ∃ s, s = g.foldl addC ⟨0, 0, 0, 0⟩ := ⟨_, rfl⟩
  rw [← hs0] at hg3
  have HOf := hid hOf
  have HG := hid hg
  have HGl : Hid (g.length ≤ 900 ∧ ∀ x ∈ g, Bd 1100000000000 x) := ⟨by omega, hg1⟩
  have HSm : Hid (s = g.foldl addC ⟨0, 0, 0, 0⟩ ∧ s.acts = l.length) := ⟨hs0, hg3⟩
  clear hOf hg hg1 hg2 hg3 hs0
  have hc : l.length ≤ c ∧ c ≤ maxLen := by obtain ⟨_, _, e, h2, h3, _⟩ := sl_get hs; injection e with _ _ e; subst e; exact ⟨h2, h3⟩
  have hc' : r.length ≤ c' ∧ c' ≤ maxLen := by obtain ⟨_, _, e, h2, h3, _⟩ := sl_get hr; injection e with _ _ e; subst e; exact ⟨h2, h3⟩
  unfold maxLen at hc hc'
  have HNk : Hid (n < k → r.drop k = []) := fun h => List.drop_eq_nil_of_le (by omega)
  clear hs hr hk hn
  go_enter Try.func8, Try.ntmps8
  go_wp2_with fail
  (rw [HVL.out]; clear HVL dN hN hNc)
  go_wp2_with (first
    | (go_at_call 42; refine (HOf.out).mono ?_; rintro e w1 ⟨v1, rfl, hv1, hx1⟩; have HV1 := hid hv1; have HX1 := hid hx1; clear hv1 hx1)
    | (go_at_call 43; refine (HLow.out _).mono ?_; rintro e w2 ⟨rfl, hx2⟩; have HX2 := hid hx2; clear hx2))
  have HP1 : Hid (∀ W X Y, Ext w2 W → Sl W 8 X ((l.take k).map ActI.cells) → Sl W 9 Y ((r.take k).map RepI.cells) → Calls Try.prog 42 #[X, Y] W (RetQ (RowAt Cnt.cells 4 (gat (cnts (l.take k) (r.take k)))) W)) := fun W X Y _ h1 h2 => tof_c W X Y _ _ h1 h2 (by rw [List.length_take]; omega) (fun a ha => HK.out a (List.mem_of_mem_take ha))
  have HP2 : Hid (∀ W X Y, Ext w2 W → Sl W 8 X ((l.drop k).map ActI.cells) → Sl W 9 Y ((r.drop k).map RepI.cells) → Calls Try.prog 42 #[X, Y] W (RetQ (RowAt Cnt.cells 4 (gat (cnts (l.drop k) (r.drop k)))) W)) := fun W X Y _ h1 h2 => tof_c W X Y _ _ h1 h2 (by rw [List.length_drop]; omega) (fun a ha => HK.out a (List.mem_of_mem_drop ha))
  have HSL2 := hid (HSL.out.ext (HX1.out.trans HX2.out))
  have HSR2 := hid (HSR.out.ext (HX1.out.trans HX2.out))
  have HT1 : Hid (∀ W, Ext w2 W → Sl W 8 (.slice A k c) ((l.take k).map ActI.cells)) := fun W hW => by rw [List.map_take]; exact sl_cut (HSL2.out.ext hW) hkl
  have HT2 : Hid (∀ W, Ext w2 W → Sl W 9 (.slice A' n c') ((r.take k).map RepI.cells)) := fun W hW => by rw [HTk.out.1, List.map_take]; exact sl_cut (HSR2.out.ext hW) hnr
  have HT3 : Hid (∀ W, Ext w2 W → Sl W 8 (.slice (if c = k then A else A.map (·.add (k * 8))) (l.length - k) (c - k)) ((l.drop k).map ActI.cells)) := fun W hW => by rw [List.map_drop]; exact sl_rest (HSL2.out.ext hW) hkl
  have HT4 : Hid (∀ W, Ext w2 W → Sl W 9 (.slice (if c' = n then A' else A'.map (·.add (n * 9))) (r.length - n) (c' - n)) ((r.drop k).map RepI.cells)) := fun W hW => by rw [HTk.out.2, List.map_drop]; exact sl_rest (HSR2.out.ext hW) hnr
  refine wp_region_any_order (by kernel_rfl) (by kernel_rfl) (by kernel_rfl) ?_
  repeat (first
    | (refine AWq.val rfl rfl rfl rfl (fun K hK => ?_); go_big_quiet_op; refine hK _ ?_; clear hK K)
    | (refine AWq.skip rfl rfl rfl ?_; simp only [Act.put, List.setIfInBounds_toArray, List.set_cons_succ, List.set_cons_zero])
    | (refine AWq.callQ (RowAt Cnt.cells 4 (gat (cnts (l.take k) (r.take k)))) (RowAt.steady _ _ _) rfl Try.func42 (by kernel_rfl) (by kernel_rfl) rfl rfl rfl (fun wc hc => ?_) ?_; (· (simp only [argsOf, anyAt, ↓reduceIte, Nat.reduceEqDiff, Array.getD_eq_getD_getElem?, List.getElem?_toArray, List.getElem?_cons_succ, List.getElem?_cons_zero, Option.getD_some]; with_reducible exact HP1.out _ _ _ hc (HT1.out _ hc) (HT2.out _ hc))))
    | (refine AWq.callQ (RowAt Cnt.cells 4 (gat (cnts (l.drop k) (r.drop k)))) (RowAt.steady _ _ _) rfl Try.func42 (by kernel_rfl) (by kernel_rfl) rfl rfl rfl (fun wc hc => ?_) ?_; (· (simp only [argsOf, anyAt, ↓reduceIte, Nat.reduceEqDiff, Array.getD_eq_getD_getElem?, List.getElem?_toArray, List.getElem?_cons_succ, List.getElem?_cons_zero, Option.getD_some]; with_reducible exact HP2.out _ _ _ hc (HT3.out _ hc) (HT4.out _ hc))))
    | (refine AWq.opQ (RowAt Cnt.cells 4 (gat (cnts (l.take k) (r.take k)))) (RowAt.steady _ _ _) rfl (fun a wc hc hl' => ⟨rfl, ?_⟩) ?_; (· (have e := hl' 41 (of_decide_eq_true (by kernel_rfl)); exact ⟨e, Ext.refl _⟩)))
    | (refine AWq.opQ (RowAt Cnt.cells 4 (gat (cnts (l.drop k) (r.drop k)))) (RowAt.steady _ _ _) rfl (fun a wc hc hl' => ⟨rfl, ?_⟩) ?_; (· (have e := hl' 48 (of_decide_eq_true (by kernel_rfl)); exact ⟨e, Ext.refl _⟩))))
  refine AWq.done rfl rfl rfl (fun w3 x3 => ?_)
  simp only [closeAny, Act.put, List.setIfInBounds_toArray, List.set_cons_succ, List.set_cons_zero]
  intro ub hub ua hua _ _ _ _
  have HUA := hid hua
  have HX3 := hid (HX2.out.trans x3)
  have HS1 : Hid (∀ W y, Ext w3 W → RowAt Cnt.cells 4 g y W → Calls Try.prog 44 #[v1, y] W (Ret (.bool true) W)) := fun W y hW hy => csame_c W v1 y g (HV1.out.1.ext (HX3.out.trans hW)) hy.1
  have HS2 : Hid (∀ W y, Ext w3 W → RowAt Cnt.cells 4 g y W → Calls Try.prog 44 #[y, v1] W (Ret (.bool true) W)) := fun W y hW hy => csame_c W y v1 g hy.1 (HV1.out.1.ext (HX3.out.trans hW))
  have HD1 : Hid (∀ W U, Ext w3 W → RowAt Cnt.cells 4 (gat (cnts (l.drop k) (r.drop k))) U W → Calls Try.prog 46 #[ua, U] W (RetQ (RowAt Cnt.cells 4 g) W)) := fun W U hW hU => by
    have := cadd_c W ua U _ _ (HUA.out.1.ext hW) hU.1 HLn.out.1 HLn.out.2.1
    rw [gat_gat, ← cnts_split, HG.out] at this
    exact this
  have HD2 : Hid (∀ W U, Ext w3 W → RowAt Cnt.cells 4 (gat (cnts (l.drop k) (r.drop k))) U W → Calls Try.prog 46 #[U, ua] W (RetQ (RowAt Cnt.cells 4 g) W)) := fun W U hW hU => by
    have := cadd_c W U ua _ _ hU.1 (HUA.out.1.ext hW) (by have := HLn.out.1; omega) HLn.out.2.2
    rw [gat_swap, ← cnts_split, HG.out] at this
    exact this
  have HRO : Hid (∀ W X Y, Sl W 8 X (l.map ActI.cells) → Sl W 9 Y (r.map RepI.cells) → Calls Try.prog 45 #[X, Y] W (RetQ (RowAt Cnt.cells 4 g) W)) := fun W X Y h1 h2 => by
    have := rof_c W _ _ l r h1 h2 (by omega)
    rw [HG.out] at this
    exact this
  have HQ1 : Hid (∀ W, Ext w3 W → Sl W 8 (.slice A l.length c) (l.map ActI.cells)) := fun W hW => HSL.out.ext ((HX1.out.trans HX3.out).trans hW)
  have HQ2 : Hid (∀ W, Ext w3 W → Sl W 9 (.slice A' r.length c') (r.map RepI.cells)) := fun W hW => HSR.out.ext ((HX1.out.trans HX3.out).trans hW)
  have HAll : Hid (∀ W, Ext w3 W → Calls Try.prog 47 #[v1] W (Ret (.agg #[.int .i64 s.kind, .int .i64 l.length, .int .i64 s.errs, .int .i64 s.made]) W)) := fun W hW => by
    have := call_c W v1 g (HV1.out.1.ext (HX3.out.trans hW)) HGl.out.1 HGl.out.2
    rw [← HSm.out.1] at this
    unfold Cnt.val at this
    rw [HSm.out.2] at this
    exact this
  have HAw : Hid (∀ W, Ext w3 W → Calls Try.prog 21 #[] W (Ret (.bool true) W)) := fun W _ => awake38_c W
  have HP3 : Hid (n < k → ∀ X, Sl w3 8 X ((l.drop k).map ActI.cells) → Calls Try.prog 42 #[X, .slice none 0 0] w3 (RetQ (RowAt Cnt.cells 4 (gat (cnts (l.drop k) (r.drop k)))) w3)) := fun h X hX => HP2.out w3 X _ x3 hX (by rw [HNk.out h]; exact Sl.nil _ _)
  have HT5 := hid (HT3.out _ x3)
  have HUB := hid hub
  clear HLn HG HGl HSm hub hua x3 HP1 HP2 HT1 HT2 HT3 HT4 HNk HSL2 HSR2 HSL HSR HTk HLow HK HOf HX2
  have hfd : ∀ W : World, (Instr.field 58 (.agg #[.int .i64 s.kind, .int .i64 l.length, .int .i64 s.errs, .int .i64 s.made]) 1).run Try.prog W = .ok (.int .i64 l.length) W := fun _ => by kernel_rfl
  by_cases hnk : n < k
  · have d9 : decide (n < k) = true := decide_eq_true hnk
    have HP3 := hid (HP3.out hnk)
    clear HUB hnk
    go_wp2_with (first
      | (go_at_call 47; refine (HAll.out _ HXG.out).mono ?_; rintro e wh ⟨rfl, hxh⟩; have HXH := hid (HXG.out.trans hxh); clear hxh HXG)
      | (go_at_call 44; refine (HS2.out _ _ HXF.out HVF.out).mono ?_; rintro e wg ⟨rfl, hxg⟩; have HXG := hid (HXF.out.trans hxg); clear hxg HXF HVF)
      | (go_at_call 46; refine (HD2.out _ _ HXE.out HUE.out).mono ?_; rintro e wf ⟨vf, rfl, hvf, hxf⟩; have HXF := hid (HXE.out.trans hxf); have HVF := hid hvf; clear hxf hvf HXE HUE)
      | (go_at_call 44; refine (HS2.out _ _ HXD.out HVD.out).mono ?_; rintro e we ⟨rfl, hxe⟩; have HXE := hid (HXD.out.trans hxe); have HUE := hid (HUD.out.ext hxe); clear hxe HXD HVD HUD)
      | (go_at_call 46; refine (HD1.out _ _ HXC.out HUC.out).mono ?_; rintro e wd ⟨vd, rfl, hvd, hxd⟩; have HXD := hid (HXC.out.trans hxd); have HVD := hid hvd; have HUD := hid (HUC.out.ext hxd); clear hxd hvd HXC HUC)
      | (go_at_call 44; refine (HS1.out _ _ HXB.out HVB.out).mono ?_; rintro e wc ⟨rfl, hxc⟩; have HXC := hid (HXB.out.trans hxc); have HUC := hid (HUB2.out.ext hxc); clear hxc HXB HVB HUB2)
      | (go_at_call 45; refine (HRO.out _ _ _ (by first | with_reducible exact HQ1.out _ HXA.out | (have h := HQ1.out _ HXA.out; rw [‹c = k›] at h; exact h)) (by first | with_reducible exact HQ2.out _ HXA.out | (have h := HQ2.out _ HXA.out; rw [‹c' = n›] at h; exact h))).mono ?_; rintro e wb ⟨vb, rfl, hvb, hxb⟩; have HXB := hid (HXA.out.trans hxb); have HVB := hid hvb; have HUB2 := hid (HUA2.out.ext hxb); clear hxb hvb HXA HUA2)
      | (go_at_call 21; refine (HAw.out _ HZ.out).mono ?_; rintro e wa ⟨rfl, hxa⟩; have HXA := hid (HZ.out.trans hxa); have HUA2 := hid (HUB.out.ext hxa); clear hxa HZ HUB)
      | (go_at_call 42; refine (HP3.out _ HT5.out).mono ?_; rintro e wz ⟨ub, rfl, hub, hz⟩; have HUB := hid hub; have HZ := hid hz; clear hub hz HP3 HT5))
    all_goals go_ret
    all_goals exact ⟨rfl, HX1.out.trans (HX3.out.trans HXH.out)⟩
  · have d9 : decide (n < k) = false := decide_eq_false hnk
    have HZ := hid (Ext.refl w3)
    clear HP3 HT5 hnk
    go_wp2_with (first
      | (go_at_call 47; refine (HAll.out _ HXG.out).mono ?_; rintro e wh ⟨rfl, hxh⟩; have HXH := hid (HXG.out.trans hxh); clear hxh HXG)
      | (go_at_call 44; refine (HS2.out _ _ HXF.out HVF.out).mono ?_; rintro e wg ⟨rfl, hxg⟩; have HXG := hid (HXF.out.trans hxg); clear hxg HXF HVF)
      | (go_at_call 46; refine (HD2.out _ _ HXE.out HUE.out).mono ?_; rintro e wf ⟨vf, rfl, hvf, hxf⟩; have HXF := hid (HXE.out.trans hxf); have HVF := hid hvf; clear hxf hvf HXE HUE)
      | (go_at_call 44; refine (HS2.out _ _ HXD.out HVD.out).mono ?_; rintro e we ⟨rfl, hxe⟩; have HXE := hid (HXD.out.trans hxe); have HUE := hid (HUD.out.ext hxe); clear hxe HXD HVD HUD)
      | (go_at_call 46; refine (HD1.out _ _ HXC.out HUC.out).mono ?_; rintro e wd ⟨vd, rfl, hvd, hxd⟩; have HXD := hid (HXC.out.trans hxd); have HVD := hid hvd; have HUD := hid (HUC.out.ext hxd); clear hxd hvd HXC HUC)
      | (go_at_call 44; refine (HS1.out _ _ HXB.out HVB.out).mono ?_; rintro e wc ⟨rfl, hxc⟩; have HXC := hid (HXB.out.trans hxc); have HUC := hid (HUB2.out.ext hxc); clear hxc HXB HVB HUB2)
      | (go_at_call 45; refine (HRO.out _ _ _ (by first | with_reducible exact HQ1.out _ HXA.out | (have h := HQ1.out _ HXA.out; rw [‹c = k›] at h; exact h)) (by first | with_reducible exact HQ2.out _ HXA.out | (have h := HQ2.out _ HXA.out; rw [‹c' = n›] at h; exact h))).mono ?_; rintro e wb ⟨vb, rfl, hvb, hxb⟩; have HXB := hid (HXA.out.trans hxb); have HVB := hid hvb; have HUB2 := hid (HUA2.out.ext hxb); clear hxb hvb HXA HUA2)
      | (go_at_call 21; refine (HAw.out _ HZ.out).mono ?_; rintro e wa ⟨rfl, hxa⟩; have HXA := hid (HZ.out.trans hxa); have HUA2 := hid (HUB.out.ext hxa); clear hxa HZ HUB)
      | (go_at_call 42; refine (HP3.out _ HT5.out).mono ?_; rintro e wz ⟨ub, rfl, hub, hz⟩; have HUB := hid hub; have HZ := hid hz; clear hub hz HP3 HT5))
    all_goals go_ret
    all_goals exact ⟨rfl, HX1.out.trans (HX3.out.trans HXH.out)⟩
set_option maxRecDepth 100000 in
set_option maxHeartbeats 4000000 in
theorem counts_r (w : World) (A A' : Option Addr) (c c' : Nat) (l : List ActI) (r : List RepI) (at_ : Int)  (b1 o1 M : Nat) (hBd' : A' = some ⟨b1, o1, none⟩) (hM : 100 < M) (hMc : M ≤ c') (hR : r.length = 100) (hs : Sl w 8 (.slice A l.length c) (l.map ActI.cells)) (hr : Sl w 9 (.slice A' r.length c') (r.map RepI.cells)) (hl : l.length ≤ 100) (hrl : r.length ≤ 100) (hk : ∀ a ∈ l, okK a.kind) (h0 : 0 ≤ at_) (h1 : at_ ≤ 255) : Calls Try.prog 8 #[.slice A l.length c, .slice (some ⟨b1, o1, none⟩) M c', .int .u8 at_] w (Ret (.bool true) w) := by
  have dM : decide (100 < M) = true := decide_eq_true hM
  have HVR := hid (show Value.slice (some ⟨b1, o1, none⟩) 100 c' = Value.slice A' r.length c' by rw [hR, hBd'])
  clear hBd' hR
  obtain ⟨k, hkk⟩ : ∃ k : Nat, at_ % ((l.length : Int) + 1) = k := ⟨(at_ % ((l.length : Int) + 1)).toNat, by have := Int.emod_nonneg at_ (b := (l.length : Int) + 1) (by omega); omega⟩
  have hkl : k ≤ l.length := by have := Int.emod_lt_of_pos at_ (b := (l.length : Int) + 1) (by omega); omega
  obtain ⟨n, hn⟩ : ∃ n, n = min k r.length := ⟨_, rfl⟩
  have hnr : n ≤ r.length := by omega
  have HTk : Hid (r.take k = r.take n ∧ r.drop k = r.drop n) := by rw [hn]; exact ⟨(take_low r k).symm, (drop_low r k).symm⟩
  have HLow : Hid (∀ W, Calls Try.prog 43 #[.int .i64 k, .int .i64 r.length] W (Ret (.int .i64 n) W)) := fun W => by
    have := low_c (k : Int) (r.length : Int) W
    rw [show min (k : Int) (r.length : Int) = (n : Int) by omega] at this
    exact this
  have HSL := hid hs
  have HSR := hid hr
  have HK := hid hk
  have hOf := tof_c w _ _ l r hs hr hl hk
  have hg1 : ∀ x ∈ gat (cnts l r), Bd 1100000000000 x := fun x hx => by have := gat_cnts hl hx; unfold Bd at *; omega
  have hg2 := gat_len (cnts l r)
  rw [cnts_len] at hg2
  have hg3 := all_acts l r
  have HLn : Hid ((gat (cnts (l.take k) (r.take k))).length + (gat (cnts (l.drop k) (r.drop k))).length ≤ 900 ∧ (∀ x ∈ gat (cnts (l.take k) (r.take k)) ++ gat (cnts (l.drop k) (r.drop k)), Bd 1100000000000 x ∧ okK x.kind) ∧ (∀ x ∈ gat (cnts (l.drop k) (r.drop k)) ++ gat (cnts (l.take k) (r.take k)), Bd 1100000000000 x ∧ okK x.kind)) := by
    have a1 := gat_len (cnts (l.take k) (r.take k))
    have a2 := gat_len (cnts (l.drop k) (r.drop k))
    rw [cnts_len, List.length_take] at a1
    rw [cnts_len, List.length_drop] at a2
    have b1 : ∀ x ∈ gat (cnts (l.take k) (r.take k)), Bd 1100000000000 x ∧ okK x.kind := fun x hx => by
      obtain ⟨a, ha, e⟩ := gat_kinds hx
      have := gat_cnts (by rw [List.length_take]; omega) hx
      exact ⟨by unfold Bd at *; omega, by rw [e]; exact hk a (List.mem_of_mem_take ha)⟩
    have b2 : ∀ x ∈ gat (cnts (l.drop k) (r.drop k)), Bd 1100000000000 x ∧ okK x.kind := fun x hx => by
      obtain ⟨a, ha, e⟩ := gat_kinds hx
      have := gat_cnts (by rw [List.length_drop]; omega) hx
      exact ⟨by unfold Bd at *; omega, by rw [e]; exact hk a (List.mem_of_mem_drop ha)⟩
    exact ⟨by omega, fun x hx => (List.mem_append.1 hx).elim (b1 x) (b2 x), fun x hx => (List.mem_append.1 hx).elim (b2 x) (b1 x)⟩
  obtain ⟨g, hg⟩ : ∃ g, gat (cnts l r) = g := ⟨_, rfl⟩
  rw [hg] at hOf hg1 hg2 hg3
  obtain ⟨s, hs0⟩ : ∃ s, s = g.foldl addC ⟨0, 0, 0, 0⟩ := ⟨_, rfl⟩
  rw [← hs0] at hg3
  have HOf := hid hOf
  have HG := hid hg
  have HGl : Hid (g.length ≤ 900 ∧ ∀ x ∈ g, Bd 1100000000000 x) := ⟨by omega, hg1⟩
  have HSm : Hid (s = g.foldl addC ⟨0, 0, 0, 0⟩ ∧ s.acts = l.length) := ⟨hs0, hg3⟩
  clear hOf hg hg1 hg2 hg3 hs0
  have hc : l.length ≤ c ∧ c ≤ maxLen := by obtain ⟨_, _, e, h2, h3, _⟩ := sl_get hs; injection e with _ _ e; subst e; exact ⟨h2, h3⟩
  have hc' : r.length ≤ c' ∧ c' ≤ maxLen := by obtain ⟨_, _, e, h2, h3, _⟩ := sl_get hr; injection e with _ _ e; subst e; exact ⟨h2, h3⟩
  unfold maxLen at hc hc'
  have HNk : Hid (n < k → r.drop k = []) := fun h => List.drop_eq_nil_of_le (by omega)
  clear hs hr hk hn
  go_enter Try.func8, Try.ntmps8
  go_wp2_with fail
  (rw [HVR.out]; clear HVR dM hM hMc)
  go_wp2_with (first
    | (go_at_call 42; refine (HOf.out).mono ?_; rintro e w1 ⟨v1, rfl, hv1, hx1⟩; have HV1 := hid hv1; have HX1 := hid hx1; clear hv1 hx1)
    | (go_at_call 43; refine (HLow.out _).mono ?_; rintro e w2 ⟨rfl, hx2⟩; have HX2 := hid hx2; clear hx2))
  have HP1 : Hid (∀ W X Y, Ext w2 W → Sl W 8 X ((l.take k).map ActI.cells) → Sl W 9 Y ((r.take k).map RepI.cells) → Calls Try.prog 42 #[X, Y] W (RetQ (RowAt Cnt.cells 4 (gat (cnts (l.take k) (r.take k)))) W)) := fun W X Y _ h1 h2 => tof_c W X Y _ _ h1 h2 (by rw [List.length_take]; omega) (fun a ha => HK.out a (List.mem_of_mem_take ha))
  have HP2 : Hid (∀ W X Y, Ext w2 W → Sl W 8 X ((l.drop k).map ActI.cells) → Sl W 9 Y ((r.drop k).map RepI.cells) → Calls Try.prog 42 #[X, Y] W (RetQ (RowAt Cnt.cells 4 (gat (cnts (l.drop k) (r.drop k)))) W)) := fun W X Y _ h1 h2 => tof_c W X Y _ _ h1 h2 (by rw [List.length_drop]; omega) (fun a ha => HK.out a (List.mem_of_mem_drop ha))
  have HSL2 := hid (HSL.out.ext (HX1.out.trans HX2.out))
  have HSR2 := hid (HSR.out.ext (HX1.out.trans HX2.out))
  have HT1 : Hid (∀ W, Ext w2 W → Sl W 8 (.slice A k c) ((l.take k).map ActI.cells)) := fun W hW => by rw [List.map_take]; exact sl_cut (HSL2.out.ext hW) hkl
  have HT2 : Hid (∀ W, Ext w2 W → Sl W 9 (.slice A' n c') ((r.take k).map RepI.cells)) := fun W hW => by rw [HTk.out.1, List.map_take]; exact sl_cut (HSR2.out.ext hW) hnr
  have HT3 : Hid (∀ W, Ext w2 W → Sl W 8 (.slice (if c = k then A else A.map (·.add (k * 8))) (l.length - k) (c - k)) ((l.drop k).map ActI.cells)) := fun W hW => by rw [List.map_drop]; exact sl_rest (HSL2.out.ext hW) hkl
  have HT4 : Hid (∀ W, Ext w2 W → Sl W 9 (.slice (if c' = n then A' else A'.map (·.add (n * 9))) (r.length - n) (c' - n)) ((r.drop k).map RepI.cells)) := fun W hW => by rw [HTk.out.2, List.map_drop]; exact sl_rest (HSR2.out.ext hW) hnr
  refine wp_region_any_order (by kernel_rfl) (by kernel_rfl) (by kernel_rfl) ?_
  repeat (first
    | (refine AWq.val rfl rfl rfl rfl (fun K hK => ?_); go_big_quiet_op; refine hK _ ?_; clear hK K)
    | (refine AWq.skip rfl rfl rfl ?_; simp only [Act.put, List.setIfInBounds_toArray, List.set_cons_succ, List.set_cons_zero])
    | (refine AWq.callQ (RowAt Cnt.cells 4 (gat (cnts (l.take k) (r.take k)))) (RowAt.steady _ _ _) rfl Try.func42 (by kernel_rfl) (by kernel_rfl) rfl rfl rfl (fun wc hc => ?_) ?_; (· (simp only [argsOf, anyAt, ↓reduceIte, Nat.reduceEqDiff, Array.getD_eq_getD_getElem?, List.getElem?_toArray, List.getElem?_cons_succ, List.getElem?_cons_zero, Option.getD_some]; with_reducible exact HP1.out _ _ _ hc (HT1.out _ hc) (HT2.out _ hc))))
    | (refine AWq.callQ (RowAt Cnt.cells 4 (gat (cnts (l.drop k) (r.drop k)))) (RowAt.steady _ _ _) rfl Try.func42 (by kernel_rfl) (by kernel_rfl) rfl rfl rfl (fun wc hc => ?_) ?_; (· (simp only [argsOf, anyAt, ↓reduceIte, Nat.reduceEqDiff, Array.getD_eq_getD_getElem?, List.getElem?_toArray, List.getElem?_cons_succ, List.getElem?_cons_zero, Option.getD_some]; with_reducible exact HP2.out _ _ _ hc (HT3.out _ hc) (HT4.out _ hc))))
    | (refine AWq.opQ (RowAt Cnt.cells 4 (gat (cnts (l.take k) (r.take k)))) (RowAt.steady _ _ _) rfl (fun a wc hc hl' => ⟨rfl, ?_⟩) ?_; (· (have e := hl' 41 (of_decide_eq_true (by kernel_rfl)); exact ⟨e, Ext.refl _⟩)))
    | (refine AWq.opQ (RowAt Cnt.cells 4 (gat (cnts (l.drop k) (r.drop k)))) (RowAt.steady _ _ _) rfl (fun a wc hc hl' => ⟨rfl, ?_⟩) ?_; (· (have e := hl' 48 (of_decide_eq_true (by kernel_rfl)); exact ⟨e, Ext.refl _⟩))))
  refine AWq.done rfl rfl rfl (fun w3 x3 => ?_)
  simp only [closeAny, Act.put, List.setIfInBounds_toArray, List.set_cons_succ, List.set_cons_zero]
  intro ub hub ua hua _ _ _ _
  have HUA := hid hua
  have HX3 := hid (HX2.out.trans x3)
  have HS1 : Hid (∀ W y, Ext w3 W → RowAt Cnt.cells 4 g y W → Calls Try.prog 44 #[v1, y] W (Ret (.bool true) W)) := fun W y hW hy => csame_c W v1 y g (HV1.out.1.ext (HX3.out.trans hW)) hy.1
  have HS2 : Hid (∀ W y, Ext w3 W → RowAt Cnt.cells 4 g y W → Calls Try.prog 44 #[y, v1] W (Ret (.bool true) W)) := fun W y hW hy => csame_c W y v1 g hy.1 (HV1.out.1.ext (HX3.out.trans hW))
  have HD1 : Hid (∀ W U, Ext w3 W → RowAt Cnt.cells 4 (gat (cnts (l.drop k) (r.drop k))) U W → Calls Try.prog 46 #[ua, U] W (RetQ (RowAt Cnt.cells 4 g) W)) := fun W U hW hU => by
    have := cadd_c W ua U _ _ (HUA.out.1.ext hW) hU.1 HLn.out.1 HLn.out.2.1
    rw [gat_gat, ← cnts_split, HG.out] at this
    exact this
  have HD2 : Hid (∀ W U, Ext w3 W → RowAt Cnt.cells 4 (gat (cnts (l.drop k) (r.drop k))) U W → Calls Try.prog 46 #[U, ua] W (RetQ (RowAt Cnt.cells 4 g) W)) := fun W U hW hU => by
    have := cadd_c W U ua _ _ hU.1 (HUA.out.1.ext hW) (by have := HLn.out.1; omega) HLn.out.2.2
    rw [gat_swap, ← cnts_split, HG.out] at this
    exact this
  have HRO : Hid (∀ W X Y, Sl W 8 X (l.map ActI.cells) → Sl W 9 Y (r.map RepI.cells) → Calls Try.prog 45 #[X, Y] W (RetQ (RowAt Cnt.cells 4 g) W)) := fun W X Y h1 h2 => by
    have := rof_c W _ _ l r h1 h2 (by omega)
    rw [HG.out] at this
    exact this
  have HQ1 : Hid (∀ W, Ext w3 W → Sl W 8 (.slice A l.length c) (l.map ActI.cells)) := fun W hW => HSL.out.ext ((HX1.out.trans HX3.out).trans hW)
  have HQ2 : Hid (∀ W, Ext w3 W → Sl W 9 (.slice A' r.length c') (r.map RepI.cells)) := fun W hW => HSR.out.ext ((HX1.out.trans HX3.out).trans hW)
  have HAll : Hid (∀ W, Ext w3 W → Calls Try.prog 47 #[v1] W (Ret (.agg #[.int .i64 s.kind, .int .i64 l.length, .int .i64 s.errs, .int .i64 s.made]) W)) := fun W hW => by
    have := call_c W v1 g (HV1.out.1.ext (HX3.out.trans hW)) HGl.out.1 HGl.out.2
    rw [← HSm.out.1] at this
    unfold Cnt.val at this
    rw [HSm.out.2] at this
    exact this
  have HAw : Hid (∀ W, Ext w3 W → Calls Try.prog 21 #[] W (Ret (.bool true) W)) := fun W _ => awake38_c W
  have HP3 : Hid (n < k → ∀ X, Sl w3 8 X ((l.drop k).map ActI.cells) → Calls Try.prog 42 #[X, .slice none 0 0] w3 (RetQ (RowAt Cnt.cells 4 (gat (cnts (l.drop k) (r.drop k)))) w3)) := fun h X hX => HP2.out w3 X _ x3 hX (by rw [HNk.out h]; exact Sl.nil _ _)
  have HT5 := hid (HT3.out _ x3)
  have HUB := hid hub
  clear HLn HG HGl HSm hub hua x3 HP1 HP2 HT1 HT2 HT3 HT4 HNk HSL2 HSR2 HSL HSR HTk HLow HK HOf HX2
  have hfd : ∀ W : World, (Instr.field 58 (.agg #[.int .i64 s.kind, .int .i64 l.length, .int .i64 s.errs, .int .i64 s.made]) 1).run Try.prog W = .ok (.int .i64 l.length) W := fun _ => by kernel_rfl
  by_cases hnk : n < k
  · have d9 : decide (n < k) = true := decide_eq_true hnk
    have HP3 := hid (HP3.out hnk)
    clear HUB hnk
    go_wp2_with (first
      | (go_at_call 47; refine (HAll.out _ HXG.out).mono ?_; rintro e wh ⟨rfl, hxh⟩; have HXH := hid (HXG.out.trans hxh); clear hxh HXG)
      | (go_at_call 44; refine (HS2.out _ _ HXF.out HVF.out).mono ?_; rintro e wg ⟨rfl, hxg⟩; have HXG := hid (HXF.out.trans hxg); clear hxg HXF HVF)
      | (go_at_call 46; refine (HD2.out _ _ HXE.out HUE.out).mono ?_; rintro e wf ⟨vf, rfl, hvf, hxf⟩; have HXF := hid (HXE.out.trans hxf); have HVF := hid hvf; clear hxf hvf HXE HUE)
      | (go_at_call 44; refine (HS2.out _ _ HXD.out HVD.out).mono ?_; rintro e we ⟨rfl, hxe⟩; have HXE := hid (HXD.out.trans hxe); have HUE := hid (HUD.out.ext hxe); clear hxe HXD HVD HUD)
      | (go_at_call 46; refine (HD1.out _ _ HXC.out HUC.out).mono ?_; rintro e wd ⟨vd, rfl, hvd, hxd⟩; have HXD := hid (HXC.out.trans hxd); have HVD := hid hvd; have HUD := hid (HUC.out.ext hxd); clear hxd hvd HXC HUC)
      | (go_at_call 44; refine (HS1.out _ _ HXB.out HVB.out).mono ?_; rintro e wc ⟨rfl, hxc⟩; have HXC := hid (HXB.out.trans hxc); have HUC := hid (HUB2.out.ext hxc); clear hxc HXB HVB HUB2)
      | (go_at_call 45; refine (HRO.out _ _ _ (by first | with_reducible exact HQ1.out _ HXA.out | (have h := HQ1.out _ HXA.out; rw [‹c = k›] at h; exact h)) (by first | with_reducible exact HQ2.out _ HXA.out | (have h := HQ2.out _ HXA.out; rw [‹c' = n›] at h; exact h))).mono ?_; rintro e wb ⟨vb, rfl, hvb, hxb⟩; have HXB := hid (HXA.out.trans hxb); have HVB := hid hvb; have HUB2 := hid (HUA2.out.ext hxb); clear hxb hvb HXA HUA2)
      | (go_at_call 21; refine (HAw.out _ HZ.out).mono ?_; rintro e wa ⟨rfl, hxa⟩; have HXA := hid (HZ.out.trans hxa); have HUA2 := hid (HUB.out.ext hxa); clear hxa HZ HUB)
      | (go_at_call 42; refine (HP3.out _ HT5.out).mono ?_; rintro e wz ⟨ub, rfl, hub, hz⟩; have HUB := hid hub; have HZ := hid hz; clear hub hz HP3 HT5))
    all_goals go_ret
    all_goals exact ⟨rfl, HX1.out.trans (HX3.out.trans HXH.out)⟩
  · have d9 : decide (n < k) = false := decide_eq_false hnk
    have HZ := hid (Ext.refl w3)
    clear HP3 HT5 hnk
    go_wp2_with (first
      | (go_at_call 47; refine (HAll.out _ HXG.out).mono ?_; rintro e wh ⟨rfl, hxh⟩; have HXH := hid (HXG.out.trans hxh); clear hxh HXG)
      | (go_at_call 44; refine (HS2.out _ _ HXF.out HVF.out).mono ?_; rintro e wg ⟨rfl, hxg⟩; have HXG := hid (HXF.out.trans hxg); clear hxg HXF HVF)
      | (go_at_call 46; refine (HD2.out _ _ HXE.out HUE.out).mono ?_; rintro e wf ⟨vf, rfl, hvf, hxf⟩; have HXF := hid (HXE.out.trans hxf); have HVF := hid hvf; clear hxf hvf HXE HUE)
      | (go_at_call 44; refine (HS2.out _ _ HXD.out HVD.out).mono ?_; rintro e we ⟨rfl, hxe⟩; have HXE := hid (HXD.out.trans hxe); have HUE := hid (HUD.out.ext hxe); clear hxe HXD HVD HUD)
      | (go_at_call 46; refine (HD1.out _ _ HXC.out HUC.out).mono ?_; rintro e wd ⟨vd, rfl, hvd, hxd⟩; have HXD := hid (HXC.out.trans hxd); have HVD := hid hvd; have HUD := hid (HUC.out.ext hxd); clear hxd hvd HXC HUC)
      | (go_at_call 44; refine (HS1.out _ _ HXB.out HVB.out).mono ?_; rintro e wc ⟨rfl, hxc⟩; have HXC := hid (HXB.out.trans hxc); have HUC := hid (HUB2.out.ext hxc); clear hxc HXB HVB HUB2)
      | (go_at_call 45; refine (HRO.out _ _ _ (by first | with_reducible exact HQ1.out _ HXA.out | (have h := HQ1.out _ HXA.out; rw [‹c = k›] at h; exact h)) (by first | with_reducible exact HQ2.out _ HXA.out | (have h := HQ2.out _ HXA.out; rw [‹c' = n›] at h; exact h))).mono ?_; rintro e wb ⟨vb, rfl, hvb, hxb⟩; have HXB := hid (HXA.out.trans hxb); have HVB := hid hvb; have HUB2 := hid (HUA2.out.ext hxb); clear hxb hvb HXA HUA2)
      | (go_at_call 21; refine (HAw.out _ HZ.out).mono ?_; rintro e wa ⟨rfl, hxa⟩; have HXA := hid (HZ.out.trans hxa); have HUA2 := hid (HUB.out.ext hxa); clear hxa HZ HUB)
      | (go_at_call 42; refine (HP3.out _ HT5.out).mono ?_; rintro e wz ⟨ub, rfl, hub, hz⟩; have HUB := hid hub; have HZ := hid hz; clear hub hz HP3 HT5))
    all_goals go_ret
    all_goals exact ⟨rfl, HX1.out.trans (HX3.out.trans HXH.out)⟩
set_option maxRecDepth 100000 in
set_option maxHeartbeats 4000000 in
theorem counts_lr (w : World) (A A' : Option Addr) (c c' : Nat) (l : List ActI) (r : List RepI) (at_ : Int) (b0 o0 N : Nat) (hBd : A = some ⟨b0, o0, none⟩) (hN : 100 < N) (hNc : N ≤ c) (hL : l.length = 100) (b1 o1 M : Nat) (hBd' : A' = some ⟨b1, o1, none⟩) (hM : 100 < M) (hMc : M ≤ c') (hR : r.length = 100) (hs : Sl w 8 (.slice A l.length c) (l.map ActI.cells)) (hr : Sl w 9 (.slice A' r.length c') (r.map RepI.cells)) (hl : l.length ≤ 100) (hrl : r.length ≤ 100) (hk : ∀ a ∈ l, okK a.kind) (h0 : 0 ≤ at_) (h1 : at_ ≤ 255) : Calls Try.prog 8 #[.slice (some ⟨b0, o0, none⟩) N c, .slice (some ⟨b1, o1, none⟩) M c', .int .u8 at_] w (Ret (.bool true) w) := by
  have dN : decide (100 < N) = true := decide_eq_true hN
  have HVL := hid (show Value.slice (some ⟨b0, o0, none⟩) 100 c = Value.slice A l.length c by rw [hL, hBd])
  clear hBd hL
  have dM : decide (100 < M) = true := decide_eq_true hM
  have HVR := hid (show Value.slice (some ⟨b1, o1, none⟩) 100 c' = Value.slice A' r.length c' by rw [hR, hBd'])
  clear hBd' hR
  obtain ⟨k, hkk⟩ : ∃ k : Nat, at_ % ((l.length : Int) + 1) = k := ⟨(at_ % ((l.length : Int) + 1)).toNat, by have := Int.emod_nonneg at_ (b := (l.length : Int) + 1) (by omega); omega⟩
  have hkl : k ≤ l.length := by have := Int.emod_lt_of_pos at_ (b := (l.length : Int) + 1) (by omega); omega
  obtain ⟨n, hn⟩ : ∃ n, n = min k r.length := ⟨_, rfl⟩
  have hnr : n ≤ r.length := by omega
  have HTk : Hid (r.take k = r.take n ∧ r.drop k = r.drop n) := by rw [hn]; exact ⟨(take_low r k).symm, (drop_low r k).symm⟩
  have HLow : Hid (∀ W, Calls Try.prog 43 #[.int .i64 k, .int .i64 r.length] W (Ret (.int .i64 n) W)) := fun W => by
    have := low_c (k : Int) (r.length : Int) W
    rw [show min (k : Int) (r.length : Int) = (n : Int) by omega] at this
    exact this
  have HSL := hid hs
  have HSR := hid hr
  have HK := hid hk
  have hOf := tof_c w _ _ l r hs hr hl hk
  have hg1 : ∀ x ∈ gat (cnts l r), Bd 1100000000000 x := fun x hx => by have := gat_cnts hl hx; unfold Bd at *; omega
  have hg2 := gat_len (cnts l r)
  rw [cnts_len] at hg2
  have hg3 := all_acts l r
  have HLn : Hid ((gat (cnts (l.take k) (r.take k))).length + (gat (cnts (l.drop k) (r.drop k))).length ≤ 900 ∧ (∀ x ∈ gat (cnts (l.take k) (r.take k)) ++ gat (cnts (l.drop k) (r.drop k)), Bd 1100000000000 x ∧ okK x.kind) ∧ (∀ x ∈ gat (cnts (l.drop k) (r.drop k)) ++ gat (cnts (l.take k) (r.take k)), Bd 1100000000000 x ∧ okK x.kind)) := by
    have a1 := gat_len (cnts (l.take k) (r.take k))
    have a2 := gat_len (cnts (l.drop k) (r.drop k))
    rw [cnts_len, List.length_take] at a1
    rw [cnts_len, List.length_drop] at a2
    have b1 : ∀ x ∈ gat (cnts (l.take k) (r.take k)), Bd 1100000000000 x ∧ okK x.kind := fun x hx => by
      obtain ⟨a, ha, e⟩ := gat_kinds hx
      have := gat_cnts (by rw [List.length_take]; omega) hx
      exact ⟨by unfold Bd at *; omega, by rw [e]; exact hk a (List.mem_of_mem_take ha)⟩
    have b2 : ∀ x ∈ gat (cnts (l.drop k) (r.drop k)), Bd 1100000000000 x ∧ okK x.kind := fun x hx => by
      obtain ⟨a, ha, e⟩ := gat_kinds hx
      have := gat_cnts (by rw [List.length_drop]; omega) hx
      exact ⟨by unfold Bd at *; omega, by rw [e]; exact hk a (List.mem_of_mem_drop ha)⟩
    exact ⟨by omega, fun x hx => (List.mem_append.1 hx).elim (b1 x) (b2 x), fun x hx => (List.mem_append.1 hx).elim (b2 x) (b1 x)⟩
  obtain ⟨g, hg⟩ : ∃ g, gat (cnts l r) = g := ⟨_, rfl⟩
  rw [hg] at hOf hg1 hg2 hg3
  obtain ⟨s, hs0⟩ : ∃ s, s = g.foldl addC ⟨0, 0, 0, 0⟩ := ⟨_, rfl⟩
  rw [← hs0] at hg3
  have HOf := hid hOf
  have HG := hid hg
  have HGl : Hid (g.length ≤ 900 ∧ ∀ x ∈ g, Bd 1100000000000 x) := ⟨by omega, hg1⟩
  have HSm : Hid (s = g.foldl addC ⟨0, 0, 0, 0⟩ ∧ s.acts = l.length) := ⟨hs0, hg3⟩
  clear hOf hg hg1 hg2 hg3 hs0
  have hc : l.length ≤ c ∧ c ≤ maxLen := by obtain ⟨_, _, e, h2, h3, _⟩ := sl_get hs; injection e with _ _ e; subst e; exact ⟨h2, h3⟩
  have hc' : r.length ≤ c' ∧ c' ≤ maxLen := by obtain ⟨_, _, e, h2, h3, _⟩ := sl_get hr; injection e with _ _ e; subst e; exact ⟨h2, h3⟩
  unfold maxLen at hc hc'
  have HNk : Hid (n < k → r.drop k = []) := fun h => List.drop_eq_nil_of_le (by omega)
  clear hs hr hk hn
  go_enter Try.func8, Try.ntmps8
  go_wp2_with fail
  (rw [HVL.out]; clear HVL dN hN hNc; rw [HVR.out]; clear HVR dM hM hMc)
  go_wp2_with (first
    | (go_at_call 42; refine (HOf.out).mono ?_; rintro e w1 ⟨v1, rfl, hv1, hx1⟩; have HV1 := hid hv1; have HX1 := hid hx1; clear hv1 hx1)
    | (go_at_call 43; refine (HLow.out _).mono ?_; rintro e w2 ⟨rfl, hx2⟩; have HX2 := hid hx2; clear hx2))
  have HP1 : Hid (∀ W X Y, Ext w2 W → Sl W 8 X ((l.take k).map ActI.cells) → Sl W 9 Y ((r.take k).map RepI.cells) → Calls Try.prog 42 #[X, Y] W (RetQ (RowAt Cnt.cells 4 (gat (cnts (l.take k) (r.take k)))) W)) := fun W X Y _ h1 h2 => tof_c W X Y _ _ h1 h2 (by rw [List.length_take]; omega) (fun a ha => HK.out a (List.mem_of_mem_take ha))
  have HP2 : Hid (∀ W X Y, Ext w2 W → Sl W 8 X ((l.drop k).map ActI.cells) → Sl W 9 Y ((r.drop k).map RepI.cells) → Calls Try.prog 42 #[X, Y] W (RetQ (RowAt Cnt.cells 4 (gat (cnts (l.drop k) (r.drop k)))) W)) := fun W X Y _ h1 h2 => tof_c W X Y _ _ h1 h2 (by rw [List.length_drop]; omega) (fun a ha => HK.out a (List.mem_of_mem_drop ha))
  have HSL2 := hid (HSL.out.ext (HX1.out.trans HX2.out))
  have HSR2 := hid (HSR.out.ext (HX1.out.trans HX2.out))
  have HT1 : Hid (∀ W, Ext w2 W → Sl W 8 (.slice A k c) ((l.take k).map ActI.cells)) := fun W hW => by rw [List.map_take]; exact sl_cut (HSL2.out.ext hW) hkl
  have HT2 : Hid (∀ W, Ext w2 W → Sl W 9 (.slice A' n c') ((r.take k).map RepI.cells)) := fun W hW => by rw [HTk.out.1, List.map_take]; exact sl_cut (HSR2.out.ext hW) hnr
  have HT3 : Hid (∀ W, Ext w2 W → Sl W 8 (.slice (if c = k then A else A.map (·.add (k * 8))) (l.length - k) (c - k)) ((l.drop k).map ActI.cells)) := fun W hW => by rw [List.map_drop]; exact sl_rest (HSL2.out.ext hW) hkl
  have HT4 : Hid (∀ W, Ext w2 W → Sl W 9 (.slice (if c' = n then A' else A'.map (·.add (n * 9))) (r.length - n) (c' - n)) ((r.drop k).map RepI.cells)) := fun W hW => by rw [HTk.out.2, List.map_drop]; exact sl_rest (HSR2.out.ext hW) hnr
  refine wp_region_any_order (by kernel_rfl) (by kernel_rfl) (by kernel_rfl) ?_
  repeat (first
    | (refine AWq.val rfl rfl rfl rfl (fun K hK => ?_); go_big_quiet_op; refine hK _ ?_; clear hK K)
    | (refine AWq.skip rfl rfl rfl ?_; simp only [Act.put, List.setIfInBounds_toArray, List.set_cons_succ, List.set_cons_zero])
    | (refine AWq.callQ (RowAt Cnt.cells 4 (gat (cnts (l.take k) (r.take k)))) (RowAt.steady _ _ _) rfl Try.func42 (by kernel_rfl) (by kernel_rfl) rfl rfl rfl (fun wc hc => ?_) ?_; (· (simp only [argsOf, anyAt, ↓reduceIte, Nat.reduceEqDiff, Array.getD_eq_getD_getElem?, List.getElem?_toArray, List.getElem?_cons_succ, List.getElem?_cons_zero, Option.getD_some]; with_reducible exact HP1.out _ _ _ hc (HT1.out _ hc) (HT2.out _ hc))))
    | (refine AWq.callQ (RowAt Cnt.cells 4 (gat (cnts (l.drop k) (r.drop k)))) (RowAt.steady _ _ _) rfl Try.func42 (by kernel_rfl) (by kernel_rfl) rfl rfl rfl (fun wc hc => ?_) ?_; (· (simp only [argsOf, anyAt, ↓reduceIte, Nat.reduceEqDiff, Array.getD_eq_getD_getElem?, List.getElem?_toArray, List.getElem?_cons_succ, List.getElem?_cons_zero, Option.getD_some]; with_reducible exact HP2.out _ _ _ hc (HT3.out _ hc) (HT4.out _ hc))))
    | (refine AWq.opQ (RowAt Cnt.cells 4 (gat (cnts (l.take k) (r.take k)))) (RowAt.steady _ _ _) rfl (fun a wc hc hl' => ⟨rfl, ?_⟩) ?_; (· (have e := hl' 41 (of_decide_eq_true (by kernel_rfl)); exact ⟨e, Ext.refl _⟩)))
    | (refine AWq.opQ (RowAt Cnt.cells 4 (gat (cnts (l.drop k) (r.drop k)))) (RowAt.steady _ _ _) rfl (fun a wc hc hl' => ⟨rfl, ?_⟩) ?_; (· (have e := hl' 48 (of_decide_eq_true (by kernel_rfl)); exact ⟨e, Ext.refl _⟩))))
  refine AWq.done rfl rfl rfl (fun w3 x3 => ?_)
  simp only [closeAny, Act.put, List.setIfInBounds_toArray, List.set_cons_succ, List.set_cons_zero]
  intro ub hub ua hua _ _ _ _
  have HUA := hid hua
  have HX3 := hid (HX2.out.trans x3)
  have HS1 : Hid (∀ W y, Ext w3 W → RowAt Cnt.cells 4 g y W → Calls Try.prog 44 #[v1, y] W (Ret (.bool true) W)) := fun W y hW hy => csame_c W v1 y g (HV1.out.1.ext (HX3.out.trans hW)) hy.1
  have HS2 : Hid (∀ W y, Ext w3 W → RowAt Cnt.cells 4 g y W → Calls Try.prog 44 #[y, v1] W (Ret (.bool true) W)) := fun W y hW hy => csame_c W y v1 g hy.1 (HV1.out.1.ext (HX3.out.trans hW))
  have HD1 : Hid (∀ W U, Ext w3 W → RowAt Cnt.cells 4 (gat (cnts (l.drop k) (r.drop k))) U W → Calls Try.prog 46 #[ua, U] W (RetQ (RowAt Cnt.cells 4 g) W)) := fun W U hW hU => by
    have := cadd_c W ua U _ _ (HUA.out.1.ext hW) hU.1 HLn.out.1 HLn.out.2.1
    rw [gat_gat, ← cnts_split, HG.out] at this
    exact this
  have HD2 : Hid (∀ W U, Ext w3 W → RowAt Cnt.cells 4 (gat (cnts (l.drop k) (r.drop k))) U W → Calls Try.prog 46 #[U, ua] W (RetQ (RowAt Cnt.cells 4 g) W)) := fun W U hW hU => by
    have := cadd_c W U ua _ _ hU.1 (HUA.out.1.ext hW) (by have := HLn.out.1; omega) HLn.out.2.2
    rw [gat_swap, ← cnts_split, HG.out] at this
    exact this
  have HRO : Hid (∀ W X Y, Sl W 8 X (l.map ActI.cells) → Sl W 9 Y (r.map RepI.cells) → Calls Try.prog 45 #[X, Y] W (RetQ (RowAt Cnt.cells 4 g) W)) := fun W X Y h1 h2 => by
    have := rof_c W _ _ l r h1 h2 (by omega)
    rw [HG.out] at this
    exact this
  have HQ1 : Hid (∀ W, Ext w3 W → Sl W 8 (.slice A l.length c) (l.map ActI.cells)) := fun W hW => HSL.out.ext ((HX1.out.trans HX3.out).trans hW)
  have HQ2 : Hid (∀ W, Ext w3 W → Sl W 9 (.slice A' r.length c') (r.map RepI.cells)) := fun W hW => HSR.out.ext ((HX1.out.trans HX3.out).trans hW)
  have HAll : Hid (∀ W, Ext w3 W → Calls Try.prog 47 #[v1] W (Ret (.agg #[.int .i64 s.kind, .int .i64 l.length, .int .i64 s.errs, .int .i64 s.made]) W)) := fun W hW => by
    have := call_c W v1 g (HV1.out.1.ext (HX3.out.trans hW)) HGl.out.1 HGl.out.2
    rw [← HSm.out.1] at this
    unfold Cnt.val at this
    rw [HSm.out.2] at this
    exact this
  have HAw : Hid (∀ W, Ext w3 W → Calls Try.prog 21 #[] W (Ret (.bool true) W)) := fun W _ => awake38_c W
  have HP3 : Hid (n < k → ∀ X, Sl w3 8 X ((l.drop k).map ActI.cells) → Calls Try.prog 42 #[X, .slice none 0 0] w3 (RetQ (RowAt Cnt.cells 4 (gat (cnts (l.drop k) (r.drop k)))) w3)) := fun h X hX => HP2.out w3 X _ x3 hX (by rw [HNk.out h]; exact Sl.nil _ _)
  have HT5 := hid (HT3.out _ x3)
  have HUB := hid hub
  clear HLn HG HGl HSm hub hua x3 HP1 HP2 HT1 HT2 HT3 HT4 HNk HSL2 HSR2 HSL HSR HTk HLow HK HOf HX2
  have hfd : ∀ W : World, (Instr.field 58 (.agg #[.int .i64 s.kind, .int .i64 l.length, .int .i64 s.errs, .int .i64 s.made]) 1).run Try.prog W = .ok (.int .i64 l.length) W := fun _ => by kernel_rfl
  by_cases hnk : n < k
  · have d9 : decide (n < k) = true := decide_eq_true hnk
    have HP3 := hid (HP3.out hnk)
    clear HUB hnk
    go_wp2_with (first
      | (go_at_call 47; refine (HAll.out _ HXG.out).mono ?_; rintro e wh ⟨rfl, hxh⟩; have HXH := hid (HXG.out.trans hxh); clear hxh HXG)
      | (go_at_call 44; refine (HS2.out _ _ HXF.out HVF.out).mono ?_; rintro e wg ⟨rfl, hxg⟩; have HXG := hid (HXF.out.trans hxg); clear hxg HXF HVF)
      | (go_at_call 46; refine (HD2.out _ _ HXE.out HUE.out).mono ?_; rintro e wf ⟨vf, rfl, hvf, hxf⟩; have HXF := hid (HXE.out.trans hxf); have HVF := hid hvf; clear hxf hvf HXE HUE)
      | (go_at_call 44; refine (HS2.out _ _ HXD.out HVD.out).mono ?_; rintro e we ⟨rfl, hxe⟩; have HXE := hid (HXD.out.trans hxe); have HUE := hid (HUD.out.ext hxe); clear hxe HXD HVD HUD)
      | (go_at_call 46; refine (HD1.out _ _ HXC.out HUC.out).mono ?_; rintro e wd ⟨vd, rfl, hvd, hxd⟩; have HXD := hid (HXC.out.trans hxd); have HVD := hid hvd; have HUD := hid (HUC.out.ext hxd); clear hxd hvd HXC HUC)
      | (go_at_call 44; refine (HS1.out _ _ HXB.out HVB.out).mono ?_; rintro e wc ⟨rfl, hxc⟩; have HXC := hid (HXB.out.trans hxc); have HUC := hid (HUB2.out.ext hxc); clear hxc HXB HVB HUB2)
      | (go_at_call 45; refine (HRO.out _ _ _ (by first | with_reducible exact HQ1.out _ HXA.out | (have h := HQ1.out _ HXA.out; rw [‹c = k›] at h; exact h)) (by first | with_reducible exact HQ2.out _ HXA.out | (have h := HQ2.out _ HXA.out; rw [‹c' = n›] at h; exact h))).mono ?_; rintro e wb ⟨vb, rfl, hvb, hxb⟩; have HXB := hid (HXA.out.trans hxb); have HVB := hid hvb; have HUB2 := hid (HUA2.out.ext hxb); clear hxb hvb HXA HUA2)
      | (go_at_call 21; refine (HAw.out _ HZ.out).mono ?_; rintro e wa ⟨rfl, hxa⟩; have HXA := hid (HZ.out.trans hxa); have HUA2 := hid (HUB.out.ext hxa); clear hxa HZ HUB)
      | (go_at_call 42; refine (HP3.out _ HT5.out).mono ?_; rintro e wz ⟨ub, rfl, hub, hz⟩; have HUB := hid hub; have HZ := hid hz; clear hub hz HP3 HT5))
    all_goals go_ret
    all_goals exact ⟨rfl, HX1.out.trans (HX3.out.trans HXH.out)⟩
  · have d9 : decide (n < k) = false := decide_eq_false hnk
    have HZ := hid (Ext.refl w3)
    clear HP3 HT5 hnk
    go_wp2_with (first
      | (go_at_call 47; refine (HAll.out _ HXG.out).mono ?_; rintro e wh ⟨rfl, hxh⟩; have HXH := hid (HXG.out.trans hxh); clear hxh HXG)
      | (go_at_call 44; refine (HS2.out _ _ HXF.out HVF.out).mono ?_; rintro e wg ⟨rfl, hxg⟩; have HXG := hid (HXF.out.trans hxg); clear hxg HXF HVF)
      | (go_at_call 46; refine (HD2.out _ _ HXE.out HUE.out).mono ?_; rintro e wf ⟨vf, rfl, hvf, hxf⟩; have HXF := hid (HXE.out.trans hxf); have HVF := hid hvf; clear hxf hvf HXE HUE)
      | (go_at_call 44; refine (HS2.out _ _ HXD.out HVD.out).mono ?_; rintro e we ⟨rfl, hxe⟩; have HXE := hid (HXD.out.trans hxe); have HUE := hid (HUD.out.ext hxe); clear hxe HXD HVD HUD)
      | (go_at_call 46; refine (HD1.out _ _ HXC.out HUC.out).mono ?_; rintro e wd ⟨vd, rfl, hvd, hxd⟩; have HXD := hid (HXC.out.trans hxd); have HVD := hid hvd; have HUD := hid (HUC.out.ext hxd); clear hxd hvd HXC HUC)
      | (go_at_call 44; refine (HS1.out _ _ HXB.out HVB.out).mono ?_; rintro e wc ⟨rfl, hxc⟩; have HXC := hid (HXB.out.trans hxc); have HUC := hid (HUB2.out.ext hxc); clear hxc HXB HVB HUB2)
      | (go_at_call 45; refine (HRO.out _ _ _ (by first | with_reducible exact HQ1.out _ HXA.out | (have h := HQ1.out _ HXA.out; rw [‹c = k›] at h; exact h)) (by first | with_reducible exact HQ2.out _ HXA.out | (have h := HQ2.out _ HXA.out; rw [‹c' = n›] at h; exact h))).mono ?_; rintro e wb ⟨vb, rfl, hvb, hxb⟩; have HXB := hid (HXA.out.trans hxb); have HVB := hid hvb; have HUB2 := hid (HUA2.out.ext hxb); clear hxb hvb HXA HUA2)
      | (go_at_call 21; refine (HAw.out _ HZ.out).mono ?_; rintro e wa ⟨rfl, hxa⟩; have HXA := hid (HZ.out.trans hxa); have HUA2 := hid (HUB.out.ext hxa); clear hxa HZ HUB)
      | (go_at_call 42; refine (HP3.out _ HT5.out).mono ?_; rintro e wz ⟨ub, rfl, hub, hz⟩; have HUB := hid hub; have HZ := hid hz; clear hub hz HP3 HT5))
    all_goals go_ret
    all_goals exact ⟨rfl, HX1.out.trans (HX3.out.trans HXH.out)⟩
theorem counts_any (w : World) (u v : Value) (l : List ActI) (r : List RepI) (at_ : Int) (hs : Sl w 8 u (l.map ActI.cells)) (hr : Sl w 9 v (r.map RepI.cells)) (hk : ∀ a ∈ l, okK a.kind) (h0 : 0 ≤ at_) (h1 : at_ ≤ 255) : Calls Try.prog 8 #[u, v, .int .u8 at_] w (Ret (.bool true) w) := by
  obtain ⟨A, c, rfl, a1, a2, a3⟩ := sl_get hs
  obtain ⟨A', c', rfl, b1, b2, b3⟩ := sl_get hr
  have hkt : ∀ a ∈ l.take 100, okK a.kind := fun a ha => hk a (List.mem_of_mem_take ha)
  by_cases hl : l.length ≤ 100
  · by_cases hrl : r.length ≤ 100
    · exact counts_walk w A A' c c' l r at_ hs hr hl hrl hk h0 h1
    · obtain ⟨b', o', rfl, _, _⟩ := b3 (by omega)
      have hlen : (r.take 100).length = 100 := by rw [List.length_take]; omega
      refine counts_r w A _ c c' l (r.take 100) at_ b' o' r.length rfl (by omega) b1 hlen hs ?_ hl (by omega) hk h0 h1
      rw [hlen, List.map_take]
      exact sl_take hr (by omega)
  · obtain ⟨b, o, rfl, _, _⟩ := a3 (by omega)
    have hlen : (l.take 100).length = 100 := by rw [List.length_take]; omega
    have hs' : Sl w 8 (.slice (some ⟨b, o, none⟩) (l.take 100).length c) ((l.take 100).map ActI.cells) := by
      rw [hlen, List.map_take]
      exact sl_take hs (by omega)
    by_cases hrl : r.length ≤ 100
    · exact counts_l w _ A' c c' (l.take 100) r at_ b o l.length rfl (by omega) a1 hlen hs' hr (by omega) hrl hkt h0 h1
    · obtain ⟨b', o', rfl, _, _⟩ := b3 (by omega)
      have hlen' : (r.take 100).length = 100 := by rw [List.length_take]; omega
      refine counts_lr w _ _ c c' (l.take 100) (r.take 100) at_ b o l.length rfl (by omega) a1 hlen b' o' r.length rfl (by omega) b1 hlen' hs' ?_ (by omega) (by omega) hkt h0 h1
      rw [hlen', List.map_take]
      exact sl_take hr (by omega)
end Go.Proofs.Ytefgjkaoidifbaa
