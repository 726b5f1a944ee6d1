/-
  The law UpdateViews: its walk.
-/
import Derived.Test.YtgkdiknmjgpgmaaDoorUpK
namespace Go.Proofs.YtgkdiknmjgpgmaaDoor
set_option linter.unusedSimpArgs false
set_option linter.unusedVariables false
open Go.RowKit Go.Sort

theorem bestV_none : bestV none = .tuple #[.agg #[.int .i64 0, .int .i64 0, .int .i64 0, .int .i64 0, .int .i64 0, .string ⟨#[]⟩, .string ⟨#[]⟩, .bool false], .bool false] := rfl
set_option maxRecDepth 100000 in
set_option maxHeartbeats 4000000 in
theorem updateViews_walk (w : World) (m : Int) (hm : w.cell? ⟨0, 0, none⟩ = some (.int .i64 m)) (v vf : Value) (l : List UpdI) (f : List ClauseI) (it : Ver) (h : Sl w 8 v (l.map UpdI.cells)) (hf : Sl w 3 vf (f.map ClauseI.cells)) : Calls Tryd.prog 4 #[v, vf, it.val] w (Ret (.bool true) w) := by
  have HA := fun W (hW : Ext w W) => hid (awake16_c W m (hW.cell hm))
  have L1 := fun W (hW : Ext w W) => hid (lightF_c W vf f (hf.ext hW))
  have HFew := fun W (hW : Ext w W) => hid (few16_c W v l (h.ext hW))
  have V1 := fun (h1 : LightF f) W (hW : Ext w W) v (bs : List UpdI) (hl : bs.length ≤ 30 ∧ ∀ u ∈ bs, lightU u = true) (hb : Sl W 8 v (bs.map UpdI.cells)) => hid (uview_c W v vf bs f hb (by omega) (fun u hu => by have := hl.2 u hu; unfold lightU at this; simp at this; omega) (hf.ext hW) h1)
  have V2 := fun (h1 : LightF f) W (hW : Ext w W) v (bs : List UpdI) (hl : bs.length ≤ 30 ∧ ∀ u ∈ bs, lightU u = true) (hb : Sl W 8 v (bs.map UpdI.cells)) => hid (rview_c W v vf bs f hb (by omega) (fun u hu => by have := hl.2 u hu; unfold lightU at this; simp at this; omega) (hf.ext hW) h1)
  obtain ⟨FA, fc, rfl, _⟩ := sl_get hf
  obtain ⟨A0, c0, rfl, _⟩ := sl_get h
  unfold Ver.val
  clear hm hf h
  go_enter Tryd.func4, Tryd.ntmps4
  go_wp2_with fail
  have e0 := Ext.alloc w (.cells #[.int .i64 it.by_, .int .i64 it.n] 24)
  have hbi := Blk.new w 24 #[.int .i64 it.by_, .int .i64 it.n]
  generalize w.alloc (.cells #[.int .i64 it.by_, .int .i64 it.n] 24) = w0 at e0 hbi ⊢
  generalize w.heap.size = g1 at hbi ⊢
  cases l1 : lightF f with
  | false =>
    rw [l1] at L1
    have HE0 := hid e0
    clear l1 V1 V2 HFew hbi e0
    refine ((L1 _ HE0.out).out).mono ?_
    rintro e w1 ⟨rfl, x1⟩
    have HE1 := hid (HE0.out.trans x1)
    clear x1
    go_wp2_with fail
    refine ((HA _ HE1.out).out).mono ?_
    rintro e w2 ⟨rfl, x2⟩
    have HE2 := hid (HE1.out.trans x2)
    clear x2
    go_wp2_with fail
    go_ret
    exact ⟨rfl, HE2.out⟩
  | true =>
    rw [l1] at L1
    have V1 := V1 (lightF_iff.1 l1).1
    have V2 := V2 (lightF_iff.1 l1).1
    have HE0 := hid e0
    have HBi := hid hbi
    clear l1 hbi e0
    refine ((L1 _ HE0.out).out).mono ?_
    rintro e w1 ⟨rfl, x1⟩
    have HE1 := hid (HE0.out.trans x1)
    have HB1 := hid (HBi.out.ext x1)
    clear x1 HE0 HBi
    go_wp2_with fail
    refine ((HFew _ HE1.out).out).mono ?_
    rintro e w2 ⟨v2, rfl, ⟨bs, hbs, hbl⟩, x2⟩
    have HE2 := hid (HE1.out.trans x2)
    have hb2 := HB1.out.ext x2
    have hs2 := hbs.1
    obtain ⟨A, c, rfl, g1', g2', g3⟩ := sl_get hs2
    unfold maxLen at g2'
    have HS2 := hid hs2
    have HC2 := hid g3
    have i0 := hb2.cell (i := 0) (v := .int .i64 it.by_) rfl
    have i1 := hb2.cell (i := 1) (v := .int .i64 it.n) rfl
    have il := hb2.lt
    have HB2 := hid hb2
    have HBe := fun W (hs : Sl W 8 (.slice A bs.length c) (bs.map UpdI.cells)) => hid (ubest_c W _ bs it hs (by omega))
    have HRb := fun W (hs : Sl W 8 (.slice A bs.length c) (bs.map UpdI.cells)) => hid (rbest_c W _ bs it hs)
    have HV1 := fun W (hW : Ext w W) (hs : Sl W 8 (.slice A bs.length c) (bs.map UpdI.cells)) => V1 W hW _ bs hbl hs
    have HV2 := fun W (hW : Ext w W) (hs : Sl W 8 (.slice A bs.length c) (bs.map UpdI.cells)) => V2 W hW _ bs hbl hs
    unfold Ver.val at HBe HRb
    generalize viewK (matchB f) bs = vl at HV1 HV2
    have hbl1 := hbl.1
    clear x2 HE1 hb2 hs2 hbs g3 V1 V2 HFew HB1 L1 hbl
    cases hb : bestK bs it with
    | none =>
      rw [hb, bestV_none] at HBe
      go_wp2_with fail
      refine ((HBe _ HS2.out).out).mono ?_
      rintro e w3 ⟨rfl, x3⟩
      have hb3 := HB2.out.ext x3
      have q0 := hb3.cell (i := 0) (v := .int .i64 it.by_) rfl
      have q1 := hb3.cell (i := 1) (v := .int .i64 it.n) rfl
      have ql := hb3.lt
      have HE3 := hid (HE2.out.trans x3)
      have HS3 := hid (HS2.out.ext x3)
      clear x3 hb3 HE2 HS2 i0 i1 il HBe HB2
      go_wp2_with fail
      have HB4 := hid (Blk.new w3 28 #[.int .i64 0, .int .i64 0, .int .i64 0, .int .i64 0, .int .i64 0, .string ⟨#[]⟩, .string ⟨#[]⟩, .bool false])
      refine ((HRb _ (HS3.out.ext (Ext.alloc _ _))).out).mono ?_
      rintro e w4 ⟨v4, rfl, ⟨z, rfl, hz⟩, x4⟩
      have hz : z = -1 := by
        unfold BestAt at hz
        rw [List.take_length, hb] at hz
        rcases hz with ⟨h, _⟩ | ⟨_, _, _, _, h⟩
        · exact h
        · cases h
      subst hz
      have HE0 := hid (HE3.out.trans ((Ext.alloc _ _).trans x4))
      have HS0 := hid (HS3.out.ext ((Ext.alloc _ _).trans x4))
      have hb4 := HB4.out.ext x4
      have u0 := hb4.cell (i := 0) (v := .int .i64 0) rfl
      have u1 := hb4.cell (i := 1) (v := .int .i64 0) rfl
      have u2 := hb4.cell (i := 2) (v := .int .i64 0) rfl
      have u3 := hb4.cell (i := 3) (v := .int .i64 0) rfl
      have u4 := hb4.cell (i := 4) (v := .int .i64 0) rfl
      have u5 := hb4.cell (i := 5) (v := .string ⟨#[]⟩) rfl
      have u6 := hb4.cell (i := 6) (v := .string ⟨#[]⟩) rfl
      have u7 := hb4.cell (i := 7) (v := .bool false) rfl
      have ul := hb4.lt
      clear x4 hb4 HB4 HE3 HS3 HRb hb HC2
      go_wp2_with fail
      refine wp_region_any_order (by kernel_rfl) (by kernel_rfl) (by kernel_rfl) ?_
      repeat (first
        | (refine AWq.val rfl rfl rfl rfl (fun K hK => ?_); go_big_quiet_op; refine hK _ ?_; clear hK K)
        | (refine AWq.skip rfl rfl rfl ?_; simp only [Act.put, List.setIfInBounds_toArray, List.set_cons_succ, List.set_cons_zero]))
      refine AWq.done rfl rfl rfl (fun wq xq => ?_)
      simp only [closeAny, Act.put, List.setIfInBounds_toArray, List.set_cons_succ, List.set_cons_zero]
      have HE0' := hid (HE0.out.trans xq)
      have HS0' := hid (HS0.out.ext xq)
      clear HE0 HS0 xq
      have HE0 := HE0'
      have HS0 := HS0'
      clear HE0' HS0'
      go_wp2_with fail
      refine ((HA _ HE0.out).out).mono ?_
      rintro e w4 ⟨rfl, x4⟩
      have HE4 := hid (HE0.out.trans x4)
      have HS4 := hid (HS0.out.ext x4)
      clear x4 HE0 HS0
      go_wp2_with fail
      refine ((HV1 _ HE4.out HS4.out).out).mono ?_
      rintro e w5 ⟨v5, rfl, hv5, x5⟩
      have HE5 := hid (HE4.out.trans x5)
      have HS5 := hid (HS4.out.ext x5)
      have HV5 := hid hv5.1
      obtain ⟨A5, c5, rfl, _⟩ := sl_get hv5.1
      clear x5 HE4 HS4 hv5
      go_wp2_with fail
      refine ((HV2 _ HE5.out HS5.out).out).mono ?_
      rintro e w6 ⟨v6, rfl, hv6, x6⟩
      have HE6 := hid (HE5.out.trans x6)
      have HV6 := hid (HV5.out.ext x6)
      have HU6 := hid hv6.1
      obtain ⟨A6, c6, rfl, _⟩ := sl_get hv6.1
      clear x6 HE5 HS5 hv6
      go_wp2_with fail
      refine ((usame_c _ _ _ _ HV6.out HU6.out)).mono ?_
      rintro e w7 ⟨rfl, x7⟩
      have HE7 := hid (HE6.out.trans x7)
      clear x7
      go_wp2_with fail
      go_ret
      exact ⟨rfl, HE7.out⟩
    | some x =>
      rw [hb, bestV_some] at HBe
      go_wp2_with fail
      refine ((HBe _ HS2.out).out).mono ?_
      rintro e w3 ⟨rfl, x3⟩
      have hb3 := HB2.out.ext x3
      have q0 := hb3.cell (i := 0) (v := .int .i64 it.by_) rfl
      have q1 := hb3.cell (i := 1) (v := .int .i64 it.n) rfl
      have ql := hb3.lt
      have HE3 := hid (HE2.out.trans x3)
      have HS3 := hid (HS2.out.ext x3)
      clear x3 hb3 HE2 HS2 i0 i1 il HBe HB2
      go_wp2_with fail
      have HB4 := hid (Blk.new w3 28 #[.int .i64 x.item.by_, .int .i64 x.item.n, .int .i64 x.st.v.by_, .int .i64 x.st.v.n, .int .i64 x.st.time, .string x.p, .string x.d, .bool x.dead])
      refine ((HRb _ (HS3.out.ext (Ext.alloc _ _))).out).mono ?_
      rintro e w4 ⟨v4, rfl, ⟨z, rfl, hz⟩, x4⟩
      obtain ⟨k, hkx, rfl⟩ : ∃ k : Nat, bs[k]? = some x ∧ z = (k : Int) := by
        unfold BestAt at hz
        rw [List.take_length, hb] at hz
        rcases hz with ⟨_, h⟩ | ⟨k, y, h1, h2, h⟩
        · cases h
        · injection h with h; subst h; exact ⟨k, h1, h2⟩
      obtain ⟨hkl, hkx⟩ := List.getElem?_eq_some_iff.1 hkx
      have HE0 := hid (HE3.out.trans ((Ext.alloc _ _).trans x4))
      have hs0 := HS3.out.ext ((Ext.alloc _ _).trans x4)
      have HS0 := hid hs0
      have hb4 := HB4.out.ext x4
      have u0 := hb4.cell (i := 0) (v := .int .i64 x.item.by_) rfl
      have u1 := hb4.cell (i := 1) (v := .int .i64 x.item.n) rfl
      have u2 := hb4.cell (i := 2) (v := .int .i64 x.st.v.by_) rfl
      have u3 := hb4.cell (i := 3) (v := .int .i64 x.st.v.n) rfl
      have u4 := hb4.cell (i := 4) (v := .int .i64 x.st.time) rfl
      have u5 := hb4.cell (i := 5) (v := .string x.p) rfl
      have u6 := hb4.cell (i := 6) (v := .string x.d) rfl
      have u7 := hb4.cell (i := 7) (v := .bool x.dead) rfl
      have ul := hb4.lt
      obtain ⟨A', c', hv', _, _, r3⟩ := sl_get hs0
      injection hv' with hA' _ hc'
      subst hA' hc'
      obtain ⟨b', o', rfl, lb', hcell'⟩ := r3 (by omega)
      have d0 := hcell' k hkl 0 (.int .i64 x.item.by_) (by rw [hkx]; rfl)
      have d1 := hcell' k hkl 1 (.int .i64 x.item.n) (by rw [hkx]; rfl)
      have d2 := hcell' k hkl 2 (.int .i64 x.st.v.by_) (by rw [hkx]; rfl)
      have d3 := hcell' k hkl 3 (.int .i64 x.st.v.n) (by rw [hkx]; rfl)
      have d4 := hcell' k hkl 4 (.int .i64 x.st.time) (by rw [hkx]; rfl)
      have d5 := hcell' k hkl 5 (.string x.p) (by rw [hkx]; rfl)
      have d6 := hcell' k hkl 6 (.string x.d) (by rw [hkx]; rfl)
      have d7 := hcell' k hkl 7 (.bool x.dead) (by rw [hkx]; rfl)
      rw [Nat.add_zero] at d0
      clear x4 hb4 HB4 HE3 HS3 HRb hb HC2 hkx hs0 r3 hcell' hz
      go_wp2_with fail
      refine wp_region_any_order (by kernel_rfl) (by kernel_rfl) (by kernel_rfl) ?_
      repeat (first
        | (refine AWq.val rfl rfl rfl rfl (fun K hK => ?_); go_big_quiet_op; refine hK _ ?_; clear hK K)
        | (refine AWq.skip rfl rfl rfl ?_; simp only [Act.put, List.setIfInBounds_toArray, List.set_cons_succ, List.set_cons_zero]))
      refine AWq.done rfl rfl rfl (fun wq xq => ?_)
      simp only [closeAny, Act.put, List.setIfInBounds_toArray, List.set_cons_succ, List.set_cons_zero]
      have HE0' := hid (HE0.out.trans xq)
      have HS0' := hid (HS0.out.ext xq)
      clear HE0 HS0 xq
      have HE0 := HE0'
      have HS0 := HS0'
      clear HE0' HS0'
      go_wp2_with fail
      refine ((HA _ HE0.out).out).mono ?_
      rintro e w4 ⟨rfl, x4⟩
      have HE4 := hid (HE0.out.trans x4)
      have HS4 := hid (HS0.out.ext x4)
      clear x4 HE0 HS0
      go_wp2_with fail
      refine ((HV1 _ HE4.out HS4.out).out).mono ?_
      rintro e w5 ⟨v5, rfl, hv5, x5⟩
      have HE5 := hid (HE4.out.trans x5)
      have HS5 := hid (HS4.out.ext x5)
      have HV5 := hid hv5.1
      obtain ⟨A5, c5, rfl, _⟩ := sl_get hv5.1
      clear x5 HE4 HS4 hv5
      go_wp2_with fail
      refine ((HV2 _ HE5.out HS5.out).out).mono ?_
      rintro e w6 ⟨v6, rfl, hv6, x6⟩
      have HE6 := hid (HE5.out.trans x6)
      have HV6 := hid (HV5.out.ext x6)
      have HU6 := hid hv6.1
      obtain ⟨A6, c6, rfl, _⟩ := sl_get hv6.1
      clear x6 HE5 HS5 hv6
      go_wp2_with fail
      refine ((usame_c _ _ _ _ HV6.out HU6.out)).mono ?_
      rintro e w7 ⟨rfl, x7⟩
      have HE7 := hid (HE6.out.trans x7)
      clear x7
      go_wp2_with fail
      go_ret
      exact ⟨rfl, HE7.out⟩
end Go.Proofs.YtgkdiknmjgpgmaaDoor
